/- spans.Set.Join and .Meet: sets with the times of one of two, of both. Condition: not too many spans. -/
import Derived.Test.YtccmalpbejednaaDoorSetOps
namespace Go.Proofs.YtccmalpbejednaaDoor
open Go Go.Proofs Go.RowKit

theorem add_none (b o i : Nat) : (⟨b, o, none⟩ : Addr).add i = ⟨b, o + i, none⟩ := by unfold Addr.add; split <;> simp_all
theorem SpanRow.reads {w : World} {B n : Nat} {A : Option Addr} {xs : List (Int × Int)} (h : SpanRow w B A n xs) : Reads w B 2 A n (flatS xs) := by
  refine ⟨by rw [flatS_length, h.len], fun hn => ?_⟩
  rcases h.2 with ⟨rfl, rfl⟩ | ⟨b, off, rfl, hlt, hc⟩
  · have := h.len
    simp at this
    omega
  · exact ⟨_, rfl, hlt, fun j u hu => by
      rw [add_none]
      exact flatS_all (P := fun p u => w.cell? ⟨b, p, none⟩ = some u) xs off hc j u hu⟩
theorem RetRow.from_ {w w1 : World} {Q Q' : List (Int × Int) → Prop} {e : Ending} {w' : World} (h : RetRow w1 Q e w') (hb : Below w.heap.size w w1) (hq : ∀ l, Q l → Q' l) : RetRow w Q' e w' := by
  obtain ⟨A, n, c, xs, rfl, h1, h2, h3, h4⟩ := h
  exact ⟨A, n, c, xs, rfl, h1, h2, hq _ h3, hb.trans (h4.mono hb.size)⟩
/-- What each of the one meets with each of the other. -/
def meetL (xs ys : List (Int × Int)) : List (Int × Int) := xs.flatMap fun s => ys.map fun o => meetF s.1 s.2 o.1 o.2
theorem meetL_step {xs ys : List (Int × Int)} {k : Nat} {s : Int × Int} (h : xs[k]? = some s) : meetL (xs.take (k + 1)) ys = meetL (xs.take k) ys ++ ys.map fun o => meetF s.1 s.2 o.1 o.2 := by
  have hk := (List.getElem?_eq_some_iff.1 h).1
  have hs : xs[k] = s := by rw [List.getElem?_eq_getElem hk] at h; exact Option.some.inj h
  rw [List.take_succ_eq_append_getElem hk, hs]
  unfold meetL
  rw [List.flatMap_append]
  simp
theorem meetL_has (xs ys : List (Int × Int)) (t : Int) : hasB (meetL xs ys) t = (hasB xs t && hasB ys t) := by
  rw [Bool.eq_iff_iff, Bool.and_eq_true, hasB_iff, hasB_iff, hasB_iff]
  unfold meetL
  constructor
  · rintro ⟨x, hx, h⟩
    obtain ⟨s, hs, hx⟩ := List.mem_flatMap.1 hx
    obtain ⟨o, ho, rfl⟩ := List.mem_map.1 hx
    have h1 := meetF_in s.1 s.2 o.1 o.2 t
    rw [(inB_iff _ _ _).2 h] at h1
    have h2 := (Bool.and_eq_true _ _).mp h1.symm
    exact ⟨⟨s, hs, (inB_iff _ _ _).1 h2.1⟩, ⟨o, ho, (inB_iff _ _ _).1 h2.2⟩⟩
  · rintro ⟨⟨s, hs, h1⟩, ⟨o, ho, h2⟩⟩
    refine ⟨_, List.mem_flatMap.2 ⟨s, hs, List.mem_map.2 ⟨o, ho, rfl⟩⟩, ?_⟩
    rw [← inB_iff, meetF_in, (inB_iff _ _ _).2 h1, (inB_iff _ _ _).2 h2]
    rfl
set_option maxHeartbeats 1000000 in
set_option maxRecDepth 100000 in
theorem joinAny (A A' : Option Addr) (n c n' c' B B' : Nat) (xs ys : List (Int × Int)) (w : World) (hr : SpanRow w B A n xs) (hr' : SpanRow w B' A' n' ys) (hB' : B' ≤ w.heap.size) (hn : n + n' ≤ 1000000000) (hu : AllU xs) (hu' : AllU ys) :
    Calls Tryd.prog 37 #[.slice A n c, .slice A' n' c'] w (RetRow w (SetOf (fun t => hasB xs t || hasB ys t) (n + n'))) := by
  obtain ⟨i0, hi, hz0, hz1, hz2⟩ := info_parts info_span
  have HC := cloneAnyS A n c xs w hr.len (by omega) hr.weak
  have huu : AllU (xs ++ ys) := fun s hs => by
    rcases List.mem_append.1 hs with h | h
    · exact hu s h
    · exact hu' s h
  go_enter Tryd.func37, Tryd.ntmps37
  go_wp2_with (first
    | (go_at_call 57; refine HC.mono ?_; rintro e w1 ⟨v1, rfl, hown1, hb1⟩)
    | (at_builtin; (refine wpList_append_any _ rfl (.tmp 6) (.tmp 7) 26 rfl w.heap.size 31 i0 (.agg #[.int .u64 0, .int .u64 0]) 2 16 Tryd.underlying26 hi hz0 hz1 hz2 rfl (by decide) v1 n (flatS xs) rfl hown1 B' A' n' c' (flatS ys) rfl (hr'.below hb1 hB').reads (flatS_one ys) (by unfold maxLen; omega) (by omega) hb1.size ?_; intro v5 w5 hown5 hgr5 _; rw [← flatS_append] at hown5; obtain ⟨A5, c5, rfl, _, hr5⟩ := SpanRow.of_owns hown5))
    | (go_at_call 15; refine (of_set A5 _ c5 _ (xs ++ ys) w5 hr5 hn huu).mono ?_; rintro e w6 ⟨A6, n6, c6, zs, rfl, hnc, hr6, hq6, hb6⟩))
  go_ret
  have hb5 : Below w.heap.size w w5 := hb1.grown hgr5 hb1.size (fun j hj => (hown1.lt j hj).1)
  exact ⟨A6, n6, c6, zs, rfl, hnc, hr6, ⟨hq6.1, fun t => by rw [hq6.2.1, hasB_append], hq6.2.2⟩, hb5.trans (hb6.mono hb5.size)⟩
set_option maxHeartbeats 4000000 in
set_option maxRecDepth 100000 in
theorem meetRow (A A' : Option Addr) (n c n' c' B B' : Nat) (xs ys : List (Int × Int)) (w : World) (hN : NoneLaid w) (hr : SpanRow w B A n xs) (hr' : SpanRow w B' A' n' ys) (hB : B ≤ w.heap.size) (hB' : B' ≤ w.heap.size) (hn : n * n' ≤ 1000000000) (hn1 : n ≤ 1000000000) (hn2 : n' ≤ 1000000000) (hu : AllU xs) (hu' : AllU ys) :
    Calls Tryd.prog 38 #[.slice A n c, .slice A' n' c'] w (RetRow w (SetOf (fun t => hasB xs t && hasB ys t) (n * n'))) := by
  obtain ⟨i0, hi, hz0, hz1, hz2⟩ := info_parts info_span
  go_enter Tryd.func38, Tryd.ntmps38
  go_wp2_with (fail)
  go_loopw [5, 12] (fun v i wr => ∃ k : Nat, k ≤ n ∧ i = .int .i64 k ∧ wr.ownsRow w.heap.size 31 2 v (k * n') (flatS (meetL (xs.take k) ys)) ∧ Below w.heap.size w wr) (fun _ i _ => n - (intOf i).toNat)
  case atStart => exact ⟨0, Nat.zero_le _, rfl, by rw [Nat.zero_mul]; exact World.ownsRow_nil _ _ _ _, Below.refl _ _⟩
  case round =>
    obtain ⟨k, hk, rfl, hown, hb⟩ := hrel
    have hsz := hb.size
    by_cases hlt : k < n
    · have hlen := hr.len
      obtain ⟨s, hs⟩ : ∃ s, xs[k]? = some s := ⟨xs[k]'(by omega), List.getElem?_eq_getElem (by omega)⟩
      obtain ⟨b, off, rfl, hbl, d0, d1⟩ := hr.at_ hs
      replace d0 := cellk hb (p := ⟨b, off + k * 2, none⟩) (by simp; omega) d0
      replace d1 := cellk hb (p := ⟨b, off + k * 2 + 1, none⟩) (by simp; omega) d1
      have hin0 : (0 : Int) ≤ (k : Int) := by omega
      have hin1 : (k : Int) < (n : Int) := by omega
      have hsu := hu s (List.mem_of_getElem? hs)
      have hv7 : ∀ j, u5.ownBlock = some j → j < wr.heap.size := fun j hj => (hown.lt j hj).2
      have hms := Lib.hid (meetL_step (ys := ys) hs)
      have hown0 := Lib.hid hown
      have hkn : (k + 1) * n' ≤ n * n' := Nat.mul_le_mul_right _ hlt
      have hkn1 : (k + 1) * n' = k * n' + n' := Nat.succ_mul _ _
      have hkm : k * n' + n' ≤ 1000000000 := by omega
      have HK := Lib.hid hkn1
      have HLN := Lib.hid hlen
      have HH := Lib.hid hs
      have HR := Lib.hid hr
      clear hs hown hr hkn hkn1 hn hlen
      go_wp2_with (fail)
      clear d0 d1
      obtain ⟨m, hM⟩ : ∃ m, m = k * n' := ⟨_, rfl⟩
      have HM := Lib.hid hM
      have hown1 : (wr.alloc (.cells #[.int .u64 s.1, .int .u64 s.2] 31)).ownsRow w.heap.size 31 2 u5 m (flatS (meetL (xs.take k) ys)) := by rw [hM]; exact hown0.out.alloc _
      rw [← hM] at hkm
      clear hM hown0
      have hb1 : Below w.heap.size w (wr.alloc (.cells #[.int .u64 s.1, .int .u64 s.2] 31)) := hb.alloc hsz _
      obtain ⟨w0, hw0⟩ : ∃ w0, w0 = wr.alloc (.cells #[.int .u64 s.1, .int .u64 s.2] 31) := ⟨_, rfl⟩
      obtain ⟨g, hg⟩ : ∃ g, g = wr.heap.size := ⟨_, rfl⟩
      have hgs : g < w0.heap.size := by rw [hw0, hg]; simp
      have hgw : w.heap.size ≤ g := by rw [hg]; exact hsz
      have e0 : w0.cell? ⟨g, 0, none⟩ = some (.int .u64 s.1) := by rw [hw0, hg]; simp
      have e1 : w0.cell? ⟨g, 1, none⟩ = some (.int .u64 s.2) := by rw [hw0, hg]; simp
      rw [← hg] at hv7 ⊢
      rw [← hw0] at hown1 hb1 ⊢
      clear hw0 hg hb hsz
      go_loopw [5, 9, 18] (fun v _ i wq => ∃ j : Nat, j ≤ n' ∧ i = .int .i64 j ∧ wq.ownsRow w.heap.size 31 2 v (m + j) (flatS (meetL (xs.take k) ys ++ (ys.take j).map fun o => meetF s.1 s.2 o.1 o.2)) ∧ Below w.heap.size w wq ∧
        v.ownBlock ≠ some g ∧ wq.cell? ⟨g, 0, none⟩ = some (.int .u64 s.1) ∧ wq.cell? ⟨g, 1, none⟩ = some (.int .u64 s.2) ∧ g < wq.heap.size) (fun _ _ i _ => n' - (intOf i).toNat)
      case atStart => exact ⟨0, Nat.zero_le _, rfl, by rw [Nat.add_zero, List.take_zero, List.map_nil, List.append_nil]; exact hown1, hb1, fun h => by have := hv7 g h; omega, e0, e1, hgs⟩
      case round =>
        obtain ⟨j, hj, rfl, hown, hb, hne, c0, c1, hgq⟩ := hrel
        clear hown1 hb1 hv7 e0 e1 hgs
        have hsz := hb.size
        by_cases hjt : j < n'
        · have hlen' := hr'.len
          obtain ⟨o, ho⟩ : ∃ o, ys[j]? = some o := ⟨ys[j]'(by omega), List.getElem?_eq_getElem (by omega)⟩
          obtain ⟨b', off', rfl, hbl', f0, f1⟩ := hr'.at_ ho
          replace f0 := cellk hb (p := ⟨b', off' + j * 2, none⟩) (by simp; omega) f0
          replace f1 := cellk hb (p := ⟨b', off' + j * 2 + 1, none⟩) (by simp; omega) f1
          have hjn0 : (0 : Int) ≤ (j : Int) := by omega
          have hjn1 : (j : Int) < (n' : Int) := by omega
          have hou := hu' o (List.mem_of_getElem? ho)
          have c0' := calloc c0 (.cells #[.int .u64 o.1, .int .u64 o.2] 31)
          have c1' := calloc c1 (.cells #[.int .u64 o.1, .int .u64 o.2] 31)
          have HJ : Hid ((ys.take (j + 1)).map (fun o => meetF s.1 s.2 o.1 o.2) = (ys.take j).map (fun o => meetF s.1 s.2 o.1 o.2) ++ [meetF s.1 s.2 o.1 o.2]) := Lib.hid (by
            rw [List.take_succ_eq_append_getElem (by omega), List.map_append]
            rw [List.getElem?_eq_getElem (by omega)] at ho
            rw [Option.some.inj ho]
            rfl)
          obtain ⟨A1, k1, rfl, hk1, _⟩ := SpanRow.of_owns hown
          have how := Lib.hid hown
          have HHR := Lib.hid hr'
          clear hown ho hr' hlen'
          have hNq : NoneLaid wr := hN.below hb hN.lt
          go_wp2_with (first
            | (go_at_call 60; refine (meet_any _ _ _ _ _ (hNq.alloc _)).mono ?_; rintro e w4 ⟨rfl, hb4⟩; have hz4 := hb4.size)
            | (at_builtin; (refine wpList_append_own_at _ rfl (.tmp 22) (.tmp 26) 24 rfl w.heap.size 31 i0 (.agg #[.int .u64 0, .int .u64 0]) 2 16 Tryd.underlying24 hi hz0 hz1 hz2 rfl (by decide) (.slice A1 (m + j) k1) (m + j) (flatS (meetL (xs.take k) ys ++ (ys.take j).map fun o => meetF s.1 s.2 o.1 o.2)) rfl ((owns_below (how.out.alloc _) hb4 (Nat.le_refl _)).alloc _) ⟨w4.heap.size, 0, none⟩ 1 1 [.int .u64 (meetF s.1 s.2 o.1 o.2).1, .int .u64 (meetF s.1 s.2 o.1 o.2).2] rfl rfl (World.news_of_block (cs := #[.int .u64 (meetF s.1 s.2 o.1 o.2).1, .int .u64 (meetF s.1 s.2 o.1 o.2).2]) (t := 31) (fr := (0, 0)) (heap_new_at (by simp))) (by simp [Value.oneCell']) (by unfold maxLen; omega) (by omega) (by simp at hz4 ⊢; omega) ?_; intro v5 w5 hown5 hgr5 _ hat5)))
          have hz5 := hb4.size
          simp at hz5
          refine ⟨⟨j + 1, by omega, by go_num, ?_, ?_, ?_, ?_, ?_, ?_⟩, ?_⟩
          · rw [HJ.out, ← List.append_assoc, flatS_append]
            exact hown5
          · exact (((hb.alloc hsz _).trans (hb4.mono (by simp; omega))).alloc (by omega) _).grown hgr5 (by simp; omega) (fun j hj => (how.out.lt j hj).1)
          · rcases hat5 with h | h
            · rw [h]; exact hne
            · rw [h]; intro h'; simp at h'; omega
          · exact (hgr5.cell_far ⟨g, 0, none⟩ (by simp; omega) (fun h => hne h.symm)).trans (calloc (cellk hb4 (by simp; omega) c0') _)
          · exact (hgr5.cell_far ⟨g, 1, none⟩ (by simp; omega) (fun h => hne h.symm)).trans (calloc (cellk hb4 (by simp; omega) c1') _)
          · have := hgr5.size
            simp at this
            omega
          · simp [intOf]; omega
        · obtain rfl : j = n' := by omega
          rw [show ys.take j = ys from List.take_of_length_le (by rw [hr'.len]; omega)] at hown
          have how := Lib.hid hown
          clear hown hr'
          go_wp2_with (fail)
          refine ⟨⟨k + 1, by omega, by go_num, ?_, hb⟩, by simp [intOf]; omega⟩
          rw [hms.out, HK.out, ← HM.out]
          exact how.out
    · obtain rfl : k = n := by omega
      rw [show xs.take k = xs from List.take_of_length_le (by rw [hr.len]; omega)] at hown
      obtain ⟨A5, c5, rfl, _, hr5⟩ := SpanRow.of_owns hown
      have HU : AllU (meetL xs ys) := fun x hx => by
        obtain ⟨s, hs, hx⟩ := List.mem_flatMap.1 hx
        obtain ⟨o, ho, rfl⟩ := List.mem_map.1 hx
        exact meetF_u64 (hu s hs).1 (hu s hs).2 (hu' o ho).1 (hu' o ho).2
      clear hown hr
      have HN := Lib.hid hn
      go_wp2_with (go_at_call 15; refine (of_set A5 _ c5 _ (meetL xs ys) wr hr5 HN.out HU).mono ?_; rintro e w6 ⟨A6, n6, c6, zs, rfl, hnc, hr6, hq6, hb6⟩)
      go_ret
      exact ⟨A6, n6, c6, zs, rfl, hnc, hr6, ⟨hq6.1, fun t => by rw [hq6.2.1, meetL_has], hq6.2.2⟩, hb.trans (hb6.mono hb.size)⟩
end Go.Proofs.YtccmalpbejednaaDoor
