/- slices.Clone, slices.IndexFunc, slices.DeleteFunc at spans.Set: their contracts. No condition. (Printed by gen_setops.py.) -/
import Derived.Test.YtccmalpbejednaaDoorSpanRow
namespace Go.Proofs.YtccmalpbejednaaDoor
open Go Go.Proofs Go.RowKit

theorem cloneAnyS (A : Option Addr) (n c : Nat) (xs : List (Int × Int)) (w : World) (hl : xs.length = n) (hn : n ≤ 1000000000)
    (h : (A = none ∧ xs = []) ∨ ∃ b off, A = some ⟨b, off, none⟩ ∧ ∀ j s, xs[j]? = some s → w.cell? ⟨b, off + j * 2, none⟩ = some (.int .u64 s.1) ∧ w.cell? ⟨b, off + j * 2 + 1, none⟩ = some (.int .u64 s.2)) :
    Calls Tryd.prog 57 #[.slice A n c] w fun e w' => ∃ v', e = .returned v' ∧ w'.ownsRow w.heap.size 31 2 v' n (flatS xs) ∧ Below w.heap.size w w' := by
  obtain ⟨i0, hi, hz0, hz1, hz2⟩ := info_parts info_span
  rcases h with ⟨rfl, rfl⟩ | ⟨b, off, rfl, hc⟩
  · subst hl
    refine (AnyE.slices_Clone_nil Tryd.cloneSet 0 c w).mono ?_
    rintro e w' ⟨rfl, rfl⟩
    exact ⟨_, rfl, World.ownsRow_nil _ _ _ _, Below.refl _ _⟩
  · refine (AnyE.slices_Clone Tryd.cloneSet i0 (.agg #[.int .u64 0, .int .u64 0]) 2 16 hi hz0 hz1 hz2 rfl (by omega) Tryd.sizeOf31 b off n c (flatS xs) w (by rw [flatS_length, hl]) (by unfold maxLen; omega) (by omega)
      (flatS_all (P := fun p u => w.cell? ⟨b, p, none⟩ = some u) xs off hc) (flatS_one xs)).mono ?_
    rintro e w' ⟨v', rfl, h1, _, h2⟩
    exact ⟨v', rfl, h1, h2⟩

theorem idxAnyS (g n c : Nat) (xs : List (Int × Int)) (w : World) (hl : xs.length = n) (hn : n ≤ 1000000000) (hg : g < w.heap.size)
    (hc : ∀ j s, xs[j]? = some s → w.cell? ⟨g, j * 2, none⟩ = some (.int .u64 s.1) ∧ w.cell? ⟨g, j * 2 + 1, none⟩ = some (.int .u64 s.2)) :
    Calls Tryd.prog 66 #[.slice (some ⟨g, 0, none⟩) n c, .func (.func 46) #[] #[]] w fun e w' =>
      e = .returned (.int .i64 (Lib.idxBy (fun _ y : Int × Int => decide (y.2 < y.1)) xs default)) ∧ Below w.heap.size w w' := by
  have eg : ∀ args w, (callFunc 46 args).run Tryd.prog w = .ok (.enter 46 args) w := enters_of Tryd.func46 (by kernel_rfl) rfl
  have h := AnyQ.slices_IndexFunc Tryd.idxSet 2 Tryd.isAgg31 Tryd.sizeOf31 encS (fun _ => rfl) (fun x : Int × Int => decide (x.2 < x.1)) 46 #[] eg g 0 n c xs w
    (emptyPred w) (by omega) (by omega) hg (fun j hj i v hi => by
      have h1 := hc j xs[j]! (by rw [List.getElem?_eq_getElem hj]; simp [hj])
      generalize xs[j]! = y at hi h1
      rw [Nat.zero_add]
      match i, hi with
      | 0, hi => simp [encS] at hi; rw [← hi]; exact h1.1
      | 1, hi => simp [encS] at hi; rw [← hi]; exact h1.2
      | i + 2, hi => simp [encS] at hi)
  rw [List.take_of_length_le (by omega)] at h
  exact h

theorem idxNilS (n c : Nat) (hn : n = 0) (w : World) :
    Calls Tryd.prog 66 #[.slice none n c, .func (.func 46) #[] #[]] w fun e w' => e = .returned (.int .i64 (-1)) ∧ Below w.heap.size w w' := by
  subst hn
  go_enter Tryd.func66, Tryd.ntmps66
  go_wp2_with (fail)
  go_loopw [8] (fun i wr => i = .int .i64 0 ∧ wr = w) (fun _ _ => 0)
  case atStart => exact ⟨rfl, rfl⟩
  case round =>
    obtain ⟨rfl, rfl⟩ := hrel
    go_wp2_with (fail)
    go_ret
    exact ⟨rfl, Below.refl _ _⟩

set_option maxHeartbeats 2000000 in
theorem deleteAnyS (B : Nat) (v : Value) (n : Nat) (xs : List (Int × Int)) (w : World) (hown : w.ownsRow B 31 2 v n (flatS xs)) (hB : B ≤ w.heap.size) (hn : n ≤ 1000000000) :
    Calls Tryd.prog 59 #[v, .func (.func 46) #[] #[]] w fun e w' =>
      ∃ v', e = .returned v' ∧ w'.ownsRow B 31 2 v' (delF xs).length (flatS (delF xs)) ∧ Below B w w' := by
  have hl : xs.length = n := by
    have := hown.1
    rw [flatS_length] at this
    omega
  rcases owns_form2 hown with ⟨rfl, rfl⟩ | ⟨g, cap, rfl, hg, hgl, hnc⟩
  · obtain rfl : xs = [] := List.length_eq_zero_iff.1 hl
    go_enter Tryd.func59, Tryd.ntmps59
    go_wp2_with (go_at_call 66; refine (idxNilS 0 0 rfl _).mono ?_; rintro e w1 ⟨rfl, hb1⟩)
    go_ret
    exact ⟨_, rfl, World.ownsRow_nil _ _ _ _, hb1.mono hB⟩
  · have hidx := idxAnyS g n cap xs w hl hn hgl (cells_of hown)
    unfold Lib.idxBy at hidx
    rcases idxFrom_spec (fun y => decide (y.2 < y.1)) default xs 0 with ⟨h1, h2⟩ | ⟨pre, x, post, hxs, hx, hpre, h1⟩
    · rw [h1] at hidx
      have hfull := delF_full h2
      have hle : (delF xs).length = n := by rw [hfull, hl]
      rw [hle, hfull]
      clear h1 h2 hfull hle
      go_enter Tryd.func59, Tryd.ntmps59
      go_wp2_with (go_at_call 66; refine hidx.mono ?_; rintro e w1 ⟨rfl, hb1⟩)
      go_ret
      exact ⟨_, rfl, owns_below hown hb1 (Nat.le_refl _), hb1.mono hB⟩
    · rw [h1, Nat.zero_add] at hidx
      have hp1 : pre.length < n := by rw [← hl, hxs]; simp
      have hstart : xs.take pre.length = delF (xs.take (pre.length + 1)) := by
        have hk : xs[pre.length]? = some x := by rw [hxs]; simp
        rw [delF_step hk, if_neg (by simp at hx; omega)]
        rw [show xs.take pre.length = pre by rw [hxs]; simp]
        exact (delF_full hpre).symm
      generalize hA : pre.length = a0 at *
      have hHs := Lib.hid hstart
      clear hstart h1 hx hpre hxs hA
      have hne : ¬ ((a0 : Int) = -1) := by omega
      go_enter Tryd.func59, Tryd.ntmps59
      go_wp2_with (go_at_call 66; refine hidx.mono ?_; rintro e w1 ⟨rfl, hb1⟩)
      have hb1' : Below B w w1 := hb1.mono hB
      have hown1 := owns_below hown hb1 (Nat.le_refl _)
      clear hidx hown hb1
      go_loopw [5, 6] (fun i j wr => ∃ (a k : Nat) (cur : List (Int × Int)), i = .int .i64 a ∧ j = .int .i64 k ∧ a < k ∧ k ≤ n ∧ cur.length = n ∧ cur.take a = delF (xs.take k) ∧ cur.drop k = xs.drop k ∧
        wr.ownsRow B 31 2 (.slice (some ⟨g, 0, none⟩) n cap) n (flatS cur) ∧ Below B w wr) (fun _ j _ => n - (intOf j).toNat)
      case atStart => exact ⟨a0, a0 + 1, xs, rfl, by go_num, by omega, by omega, hl, hHs.out, rfl, hown1, hb1'⟩
      case round =>
        obtain ⟨a, k, cur, rfl, rfl, hak, hkn, hcl, htk, hdr, how, hb⟩ := hrel
        clear hown1 hb1' hHs hne hp1
        have hgr : g < wr.heap.size := Nat.lt_of_lt_of_le hgl hb.size
        have hBr : B ≤ wr.heap.size := Nat.le_trans hB hb.size
        by_cases hlt : k < n
        · obtain ⟨s, hs⟩ : ∃ s, xs[k]? = some s := ⟨xs[k]'(by omega), List.getElem?_eq_getElem (by omega)⟩
          have hs' : cur[k]? = some s := by
            have h3 := congrArg (fun l => l[0]?) hdr
            simp only [List.getElem?_drop, Nat.add_zero] at h3
            rw [h3, hs]
          obtain ⟨y, hy⟩ : ∃ y, cur[a]? = some y := ⟨cur[a]'(by omega), List.getElem?_eq_getElem (by omega)⟩
          obtain ⟨d0, d1⟩ := cells_of how k s hs'
          obtain ⟨e0, e1⟩ := cells_of how a y hy
          have f0 := how.frozenAt (a * 2)
          have f1 := how.frozenAt (a * 2 + 1)
          have hin0 : (0 : Int) ≤ (k : Int) := by omega
          have hin1 : (k : Int) < (n : Int) := by omega
          have hin2 : (0 : Int) ≤ (a : Int) := by omega
          have hin3 : (a : Int) < (n : Int) := by omega
          have hne1 : ¬ g = wr.heap.size := by omega
          have hST := Lib.hid hs
          have hTK := Lib.hid htk
          have hDR := Lib.hid hdr
          have hds := delF_step hs
          have hDS := Lib.hid hds
          have hOW := Lib.hid how
          clear hs hs' hy htk hdr hds how
          by_cases hord : s.1 ≤ s.2
          · have hord' : decide (s.2 < s.1) = false := decide_eq_false (by omega)
            go_wp2_with (go_at_call 46; refine (empty_any _ _ _).mono ?_; rintro e w4 ⟨rfl, hb4⟩; rw [hord']; have hz4 := hb4.size; simp at hz4; have hb4' : Below wr.heap.size wr w4 := (by repeat (first | exact Below.refl _ _ | assumption | refine Below.drew ?_ | refine Below.setCell ?_ (by first | (simp; done) | omega | (simp; omega)) _ | refine Below.alloc ?_ (by first | (simp; done) | omega | (simp; omega)) _ | refine bdrewN ?_ _ | refine bstep ?_ (by assumption) (by first | (simp; done) | omega | (simp; omega)))); have q0 := cellk hb4' (p := ⟨g, a * 2, none⟩) hgr e0; have q1 := cellk hb4' (p := ⟨g, a * 2 + 1, none⟩) hgr e1; have r0 := frzk hb4' (p := ⟨g, a * 2, none⟩) hgr f0; have r1 := frzk hb4' (p := ⟨g, a * 2 + 1, none⟩) hgr f1; have t0 : w4.cell? ⟨wr.heap.size, 0, none⟩ = some (.int .u64 s.1) := cellk hb4 (by simp) (by simp); have t1 : w4.cell? ⟨wr.heap.size, 1, none⟩ = some (.int .u64 s.2) := cellk hb4 (by simp) (by simp))
            refine ⟨?_, ?measure⟩
            (repeat apply Exists.intro)
            refine ⟨?rel, rfl⟩
            case rel =>
              refine ⟨a + 1, k + 1, cur.set a s, by go_num, by go_num, by omega, by omega, by simp [hcl], ?_, ?_, ?_, ?_⟩
              · rw [hDS.out, if_pos hord, ← hTK.out]
                rw [List.take_succ_eq_append_getElem (by simp; omega)]
                simp
                rw [List.take_set_of_le (Nat.le_refl _)]
              · have h3 := congrArg (List.drop 1) hDR.out
                rw [List.drop_drop, List.drop_drop] at h3
                rw [List.drop_set_of_lt (by omega)]
                exact h3
              · have h3 := owns_below (hOW.out.alloc (.cells #[.int .u64 s.1, .int .u64 s.2] 31)) hb4 (Nat.le_refl _)
                have h4 := ((h3.stored (a * 2) (.int .u64 s.1)).1.stored (a * 2 + 1) (.int .u64 s.2)).1
                rw [flatS_set] at h4
                exact h4
              · exact (((hb.trans (hb4'.mono hBr)).setCell (p := ⟨g, a * 2, none⟩) hg _).setCell (p := ⟨g, a * 2 + 1, none⟩) hg _)
            case measure => simp [intOf]; omega
          · have hord' : decide (s.2 < s.1) = true := decide_eq_true (by omega)
            go_wp2_with (go_at_call 46; refine (empty_any _ _ _).mono ?_; rintro e w4 ⟨rfl, hb4⟩; rw [hord']; have hz4 := hb4.size; simp at hz4; have hb4' : Below wr.heap.size wr w4 := (by repeat (first | exact Below.refl _ _ | assumption | refine Below.drew ?_ | refine Below.setCell ?_ (by first | (simp; done) | omega | (simp; omega)) _ | refine Below.alloc ?_ (by first | (simp; done) | omega | (simp; omega)) _ | refine bdrewN ?_ _ | refine bstep ?_ (by assumption) (by first | (simp; done) | omega | (simp; omega)))))
            refine ⟨?_, ?measure⟩
            (repeat apply Exists.intro)
            refine ⟨?rel, rfl⟩
            case rel =>
              refine ⟨a, k + 1, cur, rfl, by go_num, by omega, by omega, hcl, ?_, ?_, ?_, ?_⟩
              · rw [hDS.out, if_neg (by omega)]
                exact hTK.out
              · have h3 := congrArg (List.drop 1) hDR.out
                rw [List.drop_drop, List.drop_drop] at h3
                exact h3
              · exact owns_below (hOW.out.alloc (.cells #[.int .u64 s.1, .int .u64 s.2] 31)) hb4 (Nat.le_refl _)
              · exact hb.trans (hb4'.mono hBr)
            case measure => simp [intOf]; omega
        · obtain rfl : k = n := by omega
          rw [show xs.take k = xs from List.take_of_length_le (by omega)] at htk
          have hlen : (delF xs).length = a := by rw [← htk]; simp; omega
          obtain ⟨vs, hclr⟩ := run_clear2 (P := Tryd.prog) wr 26 31 (.agg #[.int .u64 0, .int .u64 0]) (.int .u64 0) (.int .u64 0) Tryd.underlying26 Tryd.zeroValue31 rfl rfl rfl g (a * 2) (k - a) (cap - a) (by omega)
            (fun j hj => by
              have h3 := how.cellAt (a * 2 + j) (by omega)
              rw [h3, List.getElem?_eq_getElem (by rw [flatS_length]; omega)]
              rfl) (fun j _ => how.frozenAt _)
          obtain ⟨xs', h4, h5, h6⟩ := owns_setCells vs wr (a * 2) _ how
          have hac : a ≤ cap := by omega
          have hTK := Lib.hid htk
          have hOW := Lib.hid h4
          have hX := Lib.hid h5
          have hL := Lib.hid hlen
          have hak' : ¬ a = k := by omega
          have hin2 : (0 : Int) ≤ (a : Int) := by omega
          have hin3 : (a : Int) ≤ (k : Int) := by omega
          have hin4 : (a : Int) ≤ (cap : Int) := by omega
          clear htk hdr how h4 h5 hlen hcl
          go_wp2_with (fail)
          go_ret
          refine ⟨_, rfl, ?_, hb.trans (h6.mono hg)⟩
          rw [hL.out, ← hTK.out, ← flatS_take, ← hX.out]
          exact owns_take hOW.out (by omega)

end Go.Proofs.YtccmalpbejednaaDoor
