/- slices.DeleteFunc at spans of one's own: the spans without times are struck, in place. No condition. -/
import Derived.Test.YtfccoiofpmhbdaaDoorSpans1
namespace Go.Proofs.YtfccoiofpmhbdaaDoor
open Go Go.Proofs Go.RowKit

theorem idxFrom_spec (p : Int × Int → Bool) (d : Int × Int) : ∀ (xs : List (Int × Int)) (i : Nat), (Lib.idxByFrom (fun _ y => p y) d xs i = -1 ∧ ∀ x ∈ xs, p x = false) ∨
    ∃ pre x post, xs = pre ++ x :: post ∧ p x = true ∧ (∀ y ∈ pre, p y = false) ∧ Lib.idxByFrom (fun _ y => p y) d xs i = ((i + pre.length : Nat) : Int) := by
  intro xs
  induction xs with
  | nil => intro i; exact .inl ⟨rfl, by simp⟩
  | cons x xs ih =>
    intro i
    by_cases h : p x = true
    · exact .inr ⟨[], x, xs, rfl, h, by simp, by simp [Lib.idxByFrom, h]⟩
    · have h' : p x = false := by simpa using h
      rcases ih (i + 1) with ⟨h1, h2⟩ | ⟨pre, y, post, rfl, h2, h3, h4⟩
      · refine .inl ⟨by simp [Lib.idxByFrom, h', h1], ?_⟩
        intro z hz
        rcases List.mem_cons.1 hz with rfl | hz
        · exact h'
        · exact h2 z hz
      · refine .inr ⟨x :: pre, y, post, rfl, h2, ?_, ?_⟩
        · intro z hz
          rcases List.mem_cons.1 hz with rfl | hz
          · exact h'
          · exact h3 z hz
        · simp only [Lib.idxByFrom, h', Bool.false_eq_true, if_false, h4, List.length_cons]
          congr 1
          omega
theorem delF_full {xs : List (Int × Int)} (h : ∀ x ∈ xs, decide (x.2 < x.1) = false) : delF xs = xs := by
  unfold delF
  rw [List.filter_eq_self]
  intro x hx
  have := h x hx
  simp at this ⊢
  omega
theorem delF_step {xs : List (Int × Int)} {k : Nat} {s : Int × Int} (h : xs[k]? = some s) : delF (xs.take (k + 1)) = if s.1 ≤ s.2 then delF (xs.take k) ++ [s] else delF (xs.take k) := by
  have hk := (List.getElem?_eq_some_iff.1 h).1
  have hs : xs[k] = s := by rw [List.getElem?_eq_getElem hk] at h; exact Option.some.inj h
  rw [List.take_succ_eq_append_getElem hk, hs]
  unfold delF
  rw [List.filter_append]
  split <;> simp [*]
theorem run_clear2 {P : Program} (w : World) (t e : TypeId) (z : Value) (a b : Value) (ht : P.underlying t = some (.slice e)) (hv : ∀ w, (zeroValue e).run P w = .ok z w) (hz : z.cells = #[a, b]) (ha : a.oneCell' = true) (hb : b.oneCell' = true) (g o n c : Nat) (hn : 0 < n)
    (hc : ∀ j, j < n * 2 → (w.cell? ⟨g, o + j, none⟩).isSome = true) (hf : ∀ j, j < n * 2 → w.frozen? ⟨g, o + j, none⟩ = false) :
    ∃ vs, ∀ ty, (Builtin.clear_ #[t] ty #[.slice (some ⟨g, o, none⟩) n c]).run P w = .ok (.tuple #[]) (w.setCells g o vs) := by
  have hlen : (Builtin.zeroCells z.cells n).toList.length = n * 2 := by
    rw [hz]; simp [Builtin.zeroCells]
  have hone : ∀ v ∈ (Builtin.zeroCells z.cells n).toList, v.oneCell' = true := by
    rw [hz]
    intro v hv'
    simp [Builtin.zeroCells] at hv'
    obtain ⟨i, _, rfl⟩ := hv'
    have h2 : i % 2 < 2 := Nat.mod_lt _ (by omega)
    rcases (by omega : i % 2 = 0 ∨ i % 2 = 1) with h | h <;> simp [h, ha, hb]
  have hst := run_storeCells_cells (P := P) g o (Builtin.zeroCells z.cells n).toList 0 w (by simpa [hlen] using hc) (by simpa [hlen] using hf) hone
  simp only [Nat.add_zero] at hst
  obtain ⟨m, rfl⟩ : ∃ m, n = m + 1 := ⟨n - 1, by omega⟩
  exact ⟨(Builtin.zeroCells z.cells (m + 1)).toList, fun ty => by simp [Builtin.clear_, run_underlying ht, hv, hst]⟩
theorem cells_of {w : World} {B g n cap : Nat} {xs : List (Int × Int)} {t : TypeId} (h : w.ownsRow B t 2 (.slice (some ⟨g, 0, none⟩) n cap) n (flatS xs)) (j : Nat) (s : Int × Int) (hj : xs[j]? = some s) :
    w.cell? ⟨g, j * 2, none⟩ = some (.int .u64 s.1) ∧ w.cell? ⟨g, j * 2 + 1, none⟩ = some (.int .u64 s.2) := by
  have hl := h.1
  rw [flatS_length] at hl
  have hlt := (List.getElem?_eq_some_iff.1 hj).1
  have h2 := flatS_get xs j s hj
  exact ⟨(h.cellAt (j * 2) (by omega)).trans h2.1, (h.cellAt (j * 2 + 1) (by omega)).trans h2.2⟩
theorem owns_form2 {w : World} {B n : Nat} {v : Value} {xs : List Value} {t : TypeId} (h : w.ownsRow B t 2 v n xs) : (v = .slice none 0 0 ∧ n = 0) ∨ ∃ g cap, v = .slice (some ⟨g, 0, none⟩) n cap ∧ B ≤ g ∧ g < w.heap.size ∧ n ≤ cap := by
  rcases h.2 with h2 | ⟨g, cap, cur, h2, h3, h4, h5, _⟩
  · exact .inl h2
  · exact .inr ⟨g, cap, h2, h3, (Array.getElem?_eq_some_iff.1 h4).1, h5⟩
set_option maxHeartbeats 2000000 in
theorem deleteAny (B : Nat) (v : Value) (n : Nat) (xs : List (Int × Int)) (w : World) (hown : w.ownsRow B 86 2 v n (flatS xs)) (hB : B ≤ w.heap.size) (hn : n ≤ 1000000000) :
    Calls Tryd.prog 52 #[v, .func (.func 54) #[] #[]] w fun e w' =>
      ∃ v', e = .returned v' ∧ w'.ownsRow B 86 2 v' (delF xs).length (flatS (delF xs)) ∧ Below B w w' := by
  have hl : xs.length = n := by
    have := hown.1
    rw [flatS_length] at this
    omega
  rcases owns_form2 hown with ⟨rfl, rfl⟩ | ⟨g, cap, rfl, hg, hgl, hnc⟩
  · obtain rfl : xs = [] := List.length_eq_zero_iff.1 hl
    go_enter Tryd.func52, Tryd.ntmps52
    go_wp2_with (go_at_call 71; refine (idxNil 0 0 rfl _).mono ?_; rintro e w1 ⟨rfl, hb1⟩)
    go_ret
    exact ⟨_, rfl, World.ownsRow_nil _ _ _ _, hb1.mono hB⟩
  · have hidx := idxAny g n cap xs w hl hn hgl (cells_of hown)
    unfold Lib.idxBy at hidx
    rcases idxFrom_spec (fun y => decide (y.2 < y.1)) default xs 0 with ⟨h1, h2⟩ | ⟨pre, x, post, hxs, hx, hpre, h1⟩
    · rw [h1] at hidx
      have hfull := delF_full h2
      have hle : (delF xs).length = n := by rw [hfull, hl]
      rw [hle, hfull]
      clear h1 h2 hfull hle
      go_enter Tryd.func52, Tryd.ntmps52
      go_wp2_with (go_at_call 71; refine hidx.mono ?_; rintro e w1 ⟨rfl, hb1⟩)
      go_ret
      exact ⟨_, rfl, owns_below hown hb1 (Nat.le_refl _), hb1.mono hB⟩
    · rw [h1, Nat.zero_add] at hidx
      have hp1 : pre.length < n := by rw [← hl, hxs]; simp
      have hstart : xs.take pre.length = delF (xs.take (pre.length + 1)) := by
        have hk : xs[pre.length]? = some x := by rw [hxs]; simp
        rw [delF_step hk, if_neg (by simp at hx; omega)]
        rw [show xs.take pre.length = pre by rw [hxs]; simp]
        exact (delF_full hpre).symm
      generalize hA : pre.length = a0 at *
      have hHs := Lib.hid hstart
      clear hstart h1 hx hpre hxs hA
      have hne : ¬ ((a0 : Int) = -1) := by omega
      go_enter Tryd.func52, Tryd.ntmps52
      go_wp2_with (go_at_call 71; refine hidx.mono ?_; rintro e w1 ⟨rfl, hb1⟩)
      have hb1' : Below B w w1 := hb1.mono hB
      have hown1 := owns_below hown hb1 (Nat.le_refl _)
      clear hidx hown hb1
      go_loopw [5, 6] (fun i j wr => ∃ (a k : Nat) (cur : List (Int × Int)), i = .int .i64 a ∧ j = .int .i64 k ∧ a < k ∧ k ≤ n ∧ cur.length = n ∧ cur.take a = delF (xs.take k) ∧ cur.drop k = xs.drop k ∧
        wr.ownsRow B 86 2 (.slice (some ⟨g, 0, none⟩) n cap) n (flatS cur) ∧ Below B w wr) (fun _ j _ => n - (intOf j).toNat)
      case atStart => exact ⟨a0, a0 + 1, xs, rfl, by go_num, by omega, by omega, hl, hHs.out, rfl, hown1, hb1'⟩
      case round =>
        obtain ⟨a, k, cur, rfl, rfl, hak, hkn, hcl, htk, hdr, how, hb⟩ := hrel
        clear hown1 hb1' hHs hne hp1
        have hgr : g < wr.heap.size := Nat.lt_of_lt_of_le hgl hb.size
        have hBr : B ≤ wr.heap.size := Nat.le_trans hB hb.size
        by_cases hlt : k < n
        · obtain ⟨s, hs⟩ : ∃ s, xs[k]? = some s := ⟨xs[k]'(by omega), List.getElem?_eq_getElem (by omega)⟩
          have hs' : cur[k]? = some s := by
            have h3 := congrArg (fun l => l[0]?) hdr
            simp only [List.getElem?_drop, Nat.add_zero] at h3
            rw [h3, hs]
          obtain ⟨y, hy⟩ : ∃ y, cur[a]? = some y := ⟨cur[a]'(by omega), List.getElem?_eq_getElem (by omega)⟩
          obtain ⟨d0, d1⟩ := cells_of how k s hs'
          obtain ⟨e0, e1⟩ := cells_of how a y hy
          have f0 := how.frozenAt (a * 2)
          have f1 := how.frozenAt (a * 2 + 1)
          have hin0 : (0 : Int) ≤ (k : Int) := by omega
          have hin1 : (k : Int) < (n : Int) := by omega
          have hin2 : (0 : Int) ≤ (a : Int) := by omega
          have hin3 : (a : Int) < (n : Int) := by omega
          have hne1 : ¬ g = wr.heap.size := by omega
          have hST := Lib.hid hs
          have hTK := Lib.hid htk
          have hDR := Lib.hid hdr
          have hds := delF_step hs
          have hDS := Lib.hid hds
          have hOW := Lib.hid how
          clear hs hs' hy htk hdr hds how
          by_cases hord : s.1 ≤ s.2
          · have hord' : decide (s.2 < s.1) = false := decide_eq_false (by omega)
            go_wp2_with (go_at_call 54; refine (empty_any _ _ _).mono ?_; rintro e w4 ⟨rfl, hb4⟩; rw [hord']; have hz4 := hb4.size; simp at hz4; have hb4' : Below wr.heap.size wr w4 := (by repeat (first | exact Below.refl _ _ | assumption | refine Below.drew ?_ | refine Below.setCell ?_ (by first | (simp; done) | omega | (simp; omega)) _ | refine Below.alloc ?_ (by first | (simp; done) | omega | (simp; omega)) _ | refine bdrewN ?_ _ | refine bstep ?_ (by assumption) (by first | (simp; done) | omega | (simp; omega)))); have q0 := cellk hb4' (p := ⟨g, a * 2, none⟩) hgr e0; have q1 := cellk hb4' (p := ⟨g, a * 2 + 1, none⟩) hgr e1; have r0 := frzk hb4' (p := ⟨g, a * 2, none⟩) hgr f0; have r1 := frzk hb4' (p := ⟨g, a * 2 + 1, none⟩) hgr f1; have t0 : w4.cell? ⟨wr.heap.size, 0, none⟩ = some (.int .u64 s.1) := cellk hb4 (by simp) (by simp); have t1 : w4.cell? ⟨wr.heap.size, 1, none⟩ = some (.int .u64 s.2) := cellk hb4 (by simp) (by simp))
            refine ⟨?_, ?measure⟩
            (repeat apply Exists.intro)
            refine ⟨?rel, rfl⟩
            case rel =>
              refine ⟨a + 1, k + 1, cur.set a s, by go_num, by go_num, by omega, by omega, by simp [hcl], ?_, ?_, ?_, ?_⟩
              · rw [hDS.out, if_pos hord, ← hTK.out]
                rw [List.take_succ_eq_append_getElem (by simp; omega)]
                simp
                rw [List.take_set_of_le (Nat.le_refl _)]
              · have h3 := congrArg (List.drop 1) hDR.out
                rw [List.drop_drop, List.drop_drop] at h3
                rw [List.drop_set_of_lt (by omega)]
                exact h3
              · have h3 := owns_below (hOW.out.alloc (.cells #[.int .u64 s.1, .int .u64 s.2] 86)) hb4 (Nat.le_refl _)
                have h4 := ((h3.stored (a * 2) (.int .u64 s.1)).1.stored (a * 2 + 1) (.int .u64 s.2)).1
                rw [flatS_set] at h4
                exact h4
              · exact (((hb.trans (hb4'.mono hBr)).setCell (p := ⟨g, a * 2, none⟩) hg _).setCell (p := ⟨g, a * 2 + 1, none⟩) hg _)
            case measure => simp [intOf]; omega
          · have hord' : decide (s.2 < s.1) = true := decide_eq_true (by omega)
            go_wp2_with (go_at_call 54; refine (empty_any _ _ _).mono ?_; rintro e w4 ⟨rfl, hb4⟩; rw [hord']; have hz4 := hb4.size; simp at hz4; have hb4' : Below wr.heap.size wr w4 := (by repeat (first | exact Below.refl _ _ | assumption | refine Below.drew ?_ | refine Below.setCell ?_ (by first | (simp; done) | omega | (simp; omega)) _ | refine Below.alloc ?_ (by first | (simp; done) | omega | (simp; omega)) _ | refine bdrewN ?_ _ | refine bstep ?_ (by assumption) (by first | (simp; done) | omega | (simp; omega)))))
            refine ⟨?_, ?measure⟩
            (repeat apply Exists.intro)
            refine ⟨?rel, rfl⟩
            case rel =>
              refine ⟨a, k + 1, cur, rfl, by go_num, by omega, by omega, hcl, ?_, ?_, ?_, ?_⟩
              · rw [hDS.out, if_neg (by omega)]
                exact hTK.out
              · have h3 := congrArg (List.drop 1) hDR.out
                rw [List.drop_drop, List.drop_drop] at h3
                exact h3
              · exact owns_below (hOW.out.alloc (.cells #[.int .u64 s.1, .int .u64 s.2] 86)) hb4 (Nat.le_refl _)
              · exact hb.trans (hb4'.mono hBr)
            case measure => simp [intOf]; omega
        · obtain rfl : k = n := by omega
          rw [show xs.take k = xs from List.take_of_length_le (by omega)] at htk
          have hlen : (delF xs).length = a := by rw [← htk]; simp; omega
          obtain ⟨vs, hclr⟩ := run_clear2 (P := Tryd.prog) wr 82 86 (.agg #[.int .u64 0, .int .u64 0]) (.int .u64 0) (.int .u64 0) Tryd.underlying82 Tryd.zeroValue86 rfl rfl rfl g (a * 2) (k - a) (cap - a) (by omega)
            (fun j hj => by
              have h3 := how.cellAt (a * 2 + j) (by omega)
              rw [h3, List.getElem?_eq_getElem (by rw [flatS_length]; omega)]
              rfl) (fun j _ => how.frozenAt _)
          obtain ⟨xs', h4, h5, h6⟩ := owns_setCells vs wr (a * 2) _ how
          have hac : a ≤ cap := by omega
          have hTK := Lib.hid htk
          have hOW := Lib.hid h4
          have hX := Lib.hid h5
          have hL := Lib.hid hlen
          have hak' : ¬ a = k := by omega
          have hin2 : (0 : Int) ≤ (a : Int) := by omega
          have hin3 : (a : Int) ≤ (k : Int) := by omega
          have hin4 : (a : Int) ≤ (cap : Int) := by omega
          clear htk hdr how h4 h5 hlen hcl
          go_wp2_with (fail)
          go_ret
          refine ⟨_, rfl, ?_, hb.trans (h6.mono hg)⟩
          rw [hL.out, ← hTK.out, ← flatS_take, ← hX.out]
          exact owns_take hOW.out (by omega)
end Go.Proofs.YtfccoiofpmhbdaaDoor
