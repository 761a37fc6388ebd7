/- spans.Of: the sorted spans with times, those that touch put together. Condition: no more than 1000000000 spans. -/
import Derived.Test.YtfccoiofpmhbdaaDoorSpans3
import Derived.Test.YtfccoiofpmhbdaaDoorInv2
import Derived.Deep.QuietTactic
import Derived.BigQuiet
namespace Go.Proofs.YtfccoiofpmhbdaaDoor
open Go Go.Proofs Go.RowKit

theorem mergeF_step {xs : List (Int × Int)} {k : Nat} {s : Int × Int} (h : xs[k]? = some s) : mergeF (xs.take (k + 1)) = stepF (mergeF (xs.take k)) s := by
  have hk := (List.getElem?_eq_some_iff.1 h).1
  have hs : xs[k] = s := by rw [List.getElem?_eq_getElem hk] at h; exact Option.some.inj h
  rw [List.take_succ_eq_append_getElem hk, hs]
  unfold mergeF
  rw [List.foldl_append]
  rfl
theorem stepF_length (out : List (Int × Int)) (s : Int × Int) : (stepF out s).length ≤ out.length + 1 ∧ stepF out s ≠ [] := by
  unfold stepF
  split
  · simp
  · rename_i t ht
    have : out ≠ [] := by rintro rfl; cases ht
    split
    · simp [this]
    · simp
theorem stepF_touch {out : List (Int × Int)} {s t : Int × Int} {p : Nat} (hp : out.length = p + 1) (ht : out[p]? = some t) (h : s.1 ≤ t.2 ∨ IntKind.u64.wrap (s.1 - 1) = t.2) : stepF out s = out.set p (t.1, max t.2 s.2) := by
  unfold stepF
  rw [List.getLast?_eq_getElem?, hp, Nat.add_sub_cancel, ht]
  simp only [if_pos h]
theorem stepF_apart {out : List (Int × Int)} {s t : Int × Int} {p : Nat} (hp : out.length = p + 1) (ht : out[p]? = some t) (h : ¬ (s.1 ≤ t.2 ∨ IntKind.u64.wrap (s.1 - 1) = t.2)) : stepF out s = out ++ [s] := by
  unfold stepF
  rw [List.getLast?_eq_getElem?, hp, Nat.add_sub_cancel, ht]
  simp only [if_neg h]
theorem set_same {α : Type} {l : List α} {i : Nat} {v : α} (h : l[i]? = some v) : l.set i v = l := by
  apply List.ext_getElem?
  intro j
  rw [List.getElem?_set]
  split
  · rename_i h2
    subst h2
    rw [h]
    have := (List.getElem?_eq_some_iff.1 h).1
    simp [this]
  · rfl
theorem flat_last {out : List (Int × Int)} {t : Int × Int} {p : Nat} (ht : out[p]? = some t) (x : Int) : flatS (out.set p (t.1, x)) = (flatS out).set (p * 2 + 1) (.int .u64 x) := by
  rw [← flatS_set, set_same (flatS_get out p t ht).1]
theorem mergeF_length (xs : List (Int × Int)) : ∀ k, (mergeF (xs.take k)).length ≤ k := by
  intro k
  induction k with
  | zero => simp [mergeF]
  | succ k ih =>
    by_cases hk : k < xs.length
    · rw [mergeF_step (List.getElem?_eq_getElem hk)]
      have := (stepF_length (mergeF (xs.take k)) xs[k]).1
      omega
    · rw [List.take_of_length_le (by omega)]
      rw [List.take_of_length_le (by omega)] at ih
      omega
theorem lenNil (w : World) : Calls Tryd.prog 48 #[.int .u64 0] w fun e w' => e = .returned (.int .i64 0) ∧ w' = w := by
  have h := Any.bits_Len (SlLaysF0.n15.bits (P := Tryd.prog) (ρ := Tryd.sortSpan_ren) { Tryd.sortSpan with }) 0 w (by omega) (by omega)
  exact h
theorem sortNil (w : World) : Calls Tryd.prog 55 #[.slice none 0 0, .func (.func 56) #[] #[]] w fun e w' =>
    e = .returned (.tuple #[]) ∧ Below w.heap.size w w' := by
  go_enter Tryd.func55, Tryd.ntmps55
  go_wp2_with (first
    | (go_at_call 48; refine (lenNil _).mono ?_; rintro e w1 ⟨rfl, rfl⟩)
    | go_in)
  go_loopw [1, 2] (fun a b wr => a = .int .i64 0 ∧ b = .int .i64 0 ∧ wr = w1) (fun _ _ _ => 0)
  case atStart => exact ⟨rfl, rfl, rfl⟩
  case round =>
    obtain ⟨rfl, rfl, rfl⟩ := hrel
    go_wp2_with go_in
    go_loopw [8] (fun i wq => i = .int .i64 1 ∧ wq = wr) (fun _ _ => 0)
    case atStart => exact ⟨rfl, rfl⟩
    case round =>
      obtain ⟨rfl, rfl⟩ := hrel
      go_wp2_with go_in
      go_end0
      exact ⟨rfl, Below.refl _ _⟩
theorem sortV (B : Nat) (v : Value) (n : Nat) (xs : List (Int × Int)) (w : World) (hown : w.ownsRow B 86 2 v n (flatS xs)) (hB : B ≤ w.heap.size) (hn : n ≤ 1000000000) :
    Calls Tryd.prog 55 #[v, .func (.func 56) #[] #[]] w fun e w' =>
      e = .returned (.tuple #[]) ∧ Below B w w' ∧ ∃ ys : List (Int × Int), ys.Perm xs ∧ ys.Pairwise (fun a b => a.1 ≤ b.1) ∧ ∃ A c, v = .slice A n c ∧ n = ys.length ∧
        (ys = [] ∨ ∃ g, A = some ⟨g, 0, none⟩ ∧ g < w'.heap.size ∧ ∀ j s, ys[j]? = some s → w'.cell? ⟨g, j * 2, none⟩ = some (.int .u64 s.1) ∧ w'.cell? ⟨g, j * 2 + 1, none⟩ = some (.int .u64 s.2)) := by
  have hl : xs.length = n := by
    have := hown.1
    rw [flatS_length] at this
    omega
  rcases owns_form2 hown with ⟨rfl, rfl⟩ | ⟨g, cap, rfl, hg, hgl, hnc⟩
  · obtain rfl : xs = [] := List.length_eq_zero_iff.1 hl
    refine (sortNil w).mono ?_
    rintro e w' ⟨rfl, hb⟩
    exact ⟨rfl, hb.mono hB, [], .refl _, .nil, _, _, rfl, rfl, .inl rfl⟩
  · refine (sortAny B g n cap xs w hown hg hgl hB hn).mono ?_
    rintro e w' ⟨rfl, hb, ys, h1, h2, h3⟩
    exact ⟨rfl, hb, ys, h1, h2, _, _, rfl, by rw [h1.length_eq, hl], .inr ⟨g, rfl, Nat.lt_of_lt_of_le hgl hb.size, h3⟩⟩
set_option maxRecDepth 100000 in
set_option maxHeartbeats 4000000 in
theorem ofAny (A : Option Addr) (n c : Nat) (xs : List (Int × Int)) (w : World) (hl : xs.length = n) (hn : n ≤ 1000000000)
    (h : (A = none ∧ xs = []) ∨ ∃ b off, A = some ⟨b, off, none⟩ ∧ ∀ j s, xs[j]? = some s → w.cell? ⟨b, off + j * 2, none⟩ = some (.int .u64 s.1) ∧ w.cell? ⟨b, off + j * 2 + 1, none⟩ = some (.int .u64 s.2)) :
    Calls Tryd.prog 45 #[.slice A n c] w fun e w' => ∃ v' ys, e = .returned v' ∧ ys.Perm (delF xs) ∧ ys.Pairwise (fun a b => a.1 ≤ b.1) ∧
      w'.ownsRow w.heap.size 86 2 v' (mergeF ys).length (flatS (mergeF ys)) ∧ Below w.heap.size w w' := by
  obtain ⟨i0, hi, hz0, hz1, hz2⟩ := info_parts info_span
  have hdl : (delF xs).length ≤ 1000000000 := Nat.le_trans (List.length_filter_le _ _) (by omega)
  have HC := cloneAny A n c xs w hl hn h
  clear h
  go_enter Tryd.func45, Tryd.ntmps45
  go_wp2_with (first
    | (go_at_call 53; refine HC.mono ?_; rintro e w1 ⟨v1, rfl, hown1, hb1⟩)
    | (go_at_call 52; refine (deleteAny w.heap.size v1 n xs w1 hown1 hb1.size hn).mono ?_; rintro e w2 ⟨v2, rfl, hown2, hb2⟩)
    | (go_at_call 55; refine (sortV w.heap.size v2 _ _ w2 hown2 (Nat.le_trans hb1.size hb2.size) hdl).mono ?_; rintro e w3 ⟨rfl, hb3, ys, hpm, hso, A3, c3, rfl, hyl, hys⟩))
  have hB0 : Below w.heap.size w w3 := hb1.trans (hb2.trans hb3)
  have hz3 := hB0.size
  generalize (delF xs).length = m at *
  clear HC hown1 hown2 hb1 hb2 hb3 hl hn
  go_loopw [3, 14] (fun v i wr => ∃ k : Nat, k ≤ m ∧ i = .int .i64 k ∧ (mergeF (ys.take k) = [] → v = .slice none 0 0) ∧ wr.ownsRow w3.heap.size 86 2 v (mergeF (ys.take k)).length (flatS (mergeF (ys.take k))) ∧ Below w3.heap.size w3 wr) (fun _ i _ => m - (intOf i).toNat)
  case atStart => exact ⟨0, Nat.zero_le _, rfl, fun _ => rfl, World.ownsRow_nil _ _ _ _, Below.refl _ _⟩
  case round =>
    obtain ⟨k, hk, rfl, hv0, hown, hb⟩ := hrel
    have hsz := hb.size
    by_cases hlt : k < m
    · rcases hys with rfl | ⟨g, rfl, hg, hcells⟩
      · simp at hyl; omega
      obtain ⟨s, hs⟩ : ∃ s, ys[k]? = some s := ⟨ys[k]'(by omega), List.getElem?_eq_getElem (by omega)⟩
      have hms := mergeF_step hs
      obtain ⟨d0, d1⟩ := hcells k s hs
      replace d0 := cellk hb (p := ⟨g, k * 2, none⟩) hg d0
      replace d1 := cellk hb (p := ⟨g, k * 2 + 1, none⟩) hg d1
      have hol := mergeF_length ys k
      have hnew := (stepF_length (mergeF (ys.take k)) s).2
      rw [← hms] at hnew
      generalize mergeF (ys.take k) = out at *
      have hin0 : (0 : Int) ≤ (k : Int) := by omega
      have hin1 : (k : Int) < (m : Int) := by omega
      have hMS := Lib.hid hms
      have how := Lib.hid hown
      have hNE := Lib.hid hnew
      clear hms hs hcells hpm hso hnew
      by_cases hout : out = []
      · subst hout
        have := hv0 rfl
        subst this
        clear hown hv0
        go_wp2_with (fail)
        go_quiet (fail)
        go_wp2_with (at_builtin; (refine wpList_append_own _ rfl (.tmp 59) (.tmp 61) 83 rfl w3.heap.size 86 i0 (.agg #[.int .u64 0, .int .u64 0]) 2 16 Tryd.underlying83 hi hz0 hz1 hz2 rfl (by decide) _ 0 (flatS []) rfl ((how.out.alloc _).alloc _) ⟨wr.heap.size + 1, 0, none⟩ 1 1 [.int .u64 s.1, .int .u64 s.2] rfl rfl (World.news_of_block (cs := #[.int .u64 s.1, .int .u64 s.2]) (t := 86) (fr := (0, 0)) (heap_new_at (by simp))) (by simp [Value.oneCell']) (by unfold maxLen; omega) (by omega) (by simp; omega) ?_; intro v5 w5 hown5 hgr5 _))
        refine ⟨⟨k + 1, by omega, by go_num, fun h => absurd h hNE.out, ?_, ?_⟩, ?_⟩
        · rw [hMS.out]
          exact hown5
        · exact ((bdrewN (hb.alloc hsz _) _).alloc (by first | (simp; omega) | omega) _).grown hgr5 (by first | (simp; omega) | omega) (fun j hj => (how.out.lt j hj).1)
        · simp [intOf]; omega
      · rcases owns_form2 hown with ⟨rfl, h0⟩ | ⟨q, cap, rfl, hq, hql, hqc⟩
        · exact absurd (List.length_eq_zero_iff.1 h0) hout
        obtain ⟨t, ht⟩ : ∃ t, out.getLast? = some t := ⟨_, List.getLast?_eq_some_getLast hout⟩
        obtain ⟨p, hp⟩ : ∃ p, out.length = p + 1 := ⟨out.length - 1, by have := List.length_pos_iff.2 hout; omega⟩
        have hlast : out[p]? = some t := by rw [← ht, List.getLast?_eq_getElem?, hp]; rfl
        obtain ⟨e0, e1⟩ := cells_of hown p t hlast
        have f1 := hown.frozenAt (p * 2 + 1)
        rw [hp]
        clear hv0 hown
        have hq' := how.out
        rw [hp] at hq'
        have hst : ∀ z, ((wr.alloc (.cells #[.int .u64 s.1, .int .u64 s.2] 86)).drewN z).ownsRow w3.heap.size 86 2 (.slice (some ⟨q, 0, none⟩) (p + 1) cap) (p + 1) (flatS out) := fun _ => hq'.alloc _
        by_cases hC1 : s.1 ≤ t.2
        · have hd1 : decide (s.1 ≤ t.2) = true := decide_eq_true hC1
          go_wp2_with (fail)
          go_quiet (fail)
          go_wp2_with (fail)
          go_region
          go_wp2_with (fail)
          refine ⟨⟨k + 1, by omega, by go_num, fun h => absurd h hNE.out, ?_, ?_⟩, ?_⟩
          · rw [hMS.out, stepF_touch hp hlast (.inl hC1), flat_last hlast, List.length_set, hp]
            exact ((hst _).stored (p * 2 + 1) _).1
          · exact (bdrewN (hb.alloc hsz _) _).setCell (p := ⟨q, p * 2 + 1, none⟩) hq _
          · simp [intOf]; omega
        · have hd1 : decide (s.1 ≤ t.2) = false := decide_eq_false hC1
          by_cases hC2 : IntKind.u64.wrap (s.1 - 1) = t.2
          · go_wp2_with (fail)
            go_quiet (fail)
            go_wp2_with (fail)
            go_region
            go_wp2_with (fail)
            refine ⟨⟨k + 1, by omega, by go_num, fun h => absurd h hNE.out, ?_, ?_⟩, ?_⟩
            · rw [hMS.out, stepF_touch hp hlast (.inr hC2), flat_last hlast, List.length_set, hp]
              exact ((hst _).stored (p * 2 + 1) _).1
            · exact (bdrewN (hb.alloc hsz _) _).setCell (p := ⟨q, p * 2 + 1, none⟩) hq _
            · simp [intOf]; omega
          · go_wp2_with (fail)
            go_quiet (fail)
            go_wp2_with (at_builtin; (refine wpList_append_own _ rfl (.tmp 59) (.tmp 61) 83 rfl w3.heap.size 86 i0 (.agg #[.int .u64 0, .int .u64 0]) 2 16 Tryd.underlying83 hi hz0 hz1 hz2 rfl (by decide) _ (p + 1) (flatS out) rfl ((hq'.alloc _).alloc _) ⟨wr.heap.size + 1, 0, none⟩ 1 1 [.int .u64 s.1, .int .u64 s.2] rfl rfl (World.news_of_block (cs := #[.int .u64 s.1, .int .u64 s.2]) (t := 86) (fr := (0, 0)) (heap_new_at (by simp))) (by simp [Value.oneCell']) (by unfold maxLen; omega) (by omega) (by simp; omega) ?_; intro v5 w5 hown5 hgr5 _))
            refine ⟨⟨k + 1, by omega, by go_num, fun h => absurd h hNE.out, ?_, ?_⟩, ?_⟩
            · rw [hMS.out, stepF_apart hp hlast (by rintro (h | h); omega; exact absurd h hC2), flatS_append, List.length_append, hp]
              exact hown5
            · exact ((bdrewN (hb.alloc hsz _) _).alloc (by first | (simp; omega) | omega) _).grown hgr5 (by first | (simp; omega) | omega) (fun j hj => (hq'.lt j hj).1)
            · simp [intOf]; omega
    · obtain rfl : k = m := by omega
      rw [show ys.take k = ys from List.take_of_length_le (by omega)] at hown
      go_wp2_with (fail)
      go_ret
      exact ⟨_, ys, rfl, hpm, hso, owns_lower hown hz3, hB0.trans (hb.mono hz3)⟩
end Go.Proofs.YtfccoiofpmhbdaaDoor
