/- slices.Equal at sets, spans.Same: are they the same rows? No condition but the number of spans. -/
import Derived.Test.YtccmalpbejednaaDoorSpanRow
namespace Go.Proofs.YtccmalpbejednaaDoor
open Go Go.Proofs Go.RowKit

theorem take_snoc_eq {α : Type} {xs ys : List α} {k : Nat} {s : α} (h : xs.take k = ys.take k) (hx : xs[k]? = some s) (hy : ys[k]? = some s) : xs.take (k + 1) = ys.take (k + 1) := by
  rw [List.take_add_one, List.take_add_one, h, hx, hy]
set_option maxHeartbeats 2000000 in
theorem equalAny (v : Bool) (A A' : Option Addr) (n c n' c' B B' : Nat) (xs ys : List (Int × Int)) (w : World) (hr : SpanRow w B A n xs) (hr' : SpanRow w B' A' n' ys) (hn : n ≤ 1000000000) (hn' : n' ≤ 1000000000) (hv : decide (xs = ys) = v) :
    Calls Tryd.prog 42 #[.slice A n c, .slice A' n' c'] w fun e w' => e = .returned (.bool v) ∧ Below w.heap.size w w' := by
  have hl := hr.len
  have hl' := hr'.len
  by_cases hnn : n = n'
  · subst hnn
    go_enter Tryd.func42, Tryd.ntmps42
    go_wp2_with (fail)
    go_loopw [13] (fun i wr => ∃ k : Nat, k ≤ n ∧ i = .int .i64 k ∧ Hid (xs.take k = ys.take k) ∧ Below w.heap.size w wr ∧ ∃ q, wr = w.drewN q) (fun i _ => n - (intOf i).toNat)
    case atStart => exact ⟨0, Nat.zero_le _, rfl, Lib.hid rfl, Below.refl _ _, 0, rfl⟩
    case round =>
      obtain ⟨k, hk, rfl, hE, hb, q, rfl⟩ := hrel
      by_cases hlt : k < n
      · obtain ⟨s, hs⟩ : ∃ s, xs[k]? = some s := ⟨xs[k]'(by omega), List.getElem?_eq_getElem (by omega)⟩
        obtain ⟨t, ht⟩ : ∃ t, ys[k]? = some t := ⟨ys[k]'(by omega), List.getElem?_eq_getElem (by omega)⟩
        obtain ⟨b, off, rfl, hbl, d0, d1⟩ := hr.at_ hs
        obtain ⟨b', off', rfl, hbl', f0, f1⟩ := hr'.at_ ht
        have hin0 : (0 : Int) ≤ (k : Int) := by omega
        have hin1 : (k : Int) < (n : Int) := by omega
        have hV := Lib.hid hv
        have hS := Lib.hid hs
        have hT := Lib.hid ht
        clear hr hr' hl hl' hv hs ht
        by_cases he : s = t
        · subst he
          go_wp2_with (fail)
          go_quiet (fail)
          go_wp2_with (fail)
          refine ⟨⟨k + 1, by omega, by go_num, Lib.hid (take_snoc_eq hE.out hS.out hT.out), (Below.refl _ _ |> fun h => bdrewN h _), _, rfl⟩, by simp [intOf]; omega⟩
        · have hF : v = false := by
            rw [← hV.out]
            exact decide_eq_false fun h => he (Option.some.inj (hS.out.symm.trans ((congrArg (·[k]?) h).trans hT.out)))
          by_cases he1 : s.1 = t.1
          · have he2 : ¬ s.2 = t.2 := fun h => he (Prod.ext he1 h)
            have hb1 : (s.2 == t.2) = false := by simpa using he2
            rw [he1] at d0
            clear he1 he
            subst hF
            go_wp2_with (fail)
            go_quiet (fail)
            go_wp2_with (fail)
            go_ret
            exact ⟨rfl, bdrewN hb _⟩
          · have hb1 : (s.1 == t.1) = false := by simpa using he1
            clear he
            subst hF
            go_wp2_with (fail)
            go_quiet (fail)
            go_wp2_with (fail)
            go_ret
            exact ⟨rfl, bdrewN hb _⟩
      · obtain rfl : k = n := by omega
        have hT : v = true := by
          rw [← hv]
          have := hE.out
          rw [List.take_of_length_le (by omega), List.take_of_length_le (by omega)] at this
          exact decide_eq_true this
        subst hT
        clear hv hr hr' hl hl'
        go_wp2_with (fail)
        go_ret
        exact ⟨rfl, hb⟩
  · have hF : v = false := by
      rw [← hv]
      exact decide_eq_false fun h => hnn (by rw [← hl, ← hl', h])
    subst hF
    have hb1 : ((n : Int) == (n' : Int)) = false := by simp; omega
    have hb2 : ((n : Int) != (n' : Int)) = true := by simp; omega
    clear hv hr hr' hl hl'
    go_enter Tryd.func42, Tryd.ntmps42
    go_wp2_with (fail)
    go_ret
    exact ⟨rfl, Below.refl _ _⟩
theorem sameAny (v : Bool) (A A' : Option Addr) (n c n' c' B B' : Nat) (xs ys : List (Int × Int)) (w : World) (hr : SpanRow w B A n xs) (hr' : SpanRow w B' A' n' ys) (hn : n ≤ 1000000000) (hn' : n' ≤ 1000000000) (hv : decide (xs = ys) = v) :
    Calls Tryd.prog 36 #[.slice A n c, .slice A' n' c'] w fun e w' => e = .returned (.bool v) ∧ Below w.heap.size w w' := by
  have HC := equalAny v A A' n c n' c' B B' xs ys w hr hr' hn hn' hv
  go_enter Tryd.func36, Tryd.ntmps36
  go_wp2_with (go_at_call 42; refine HC.mono ?_; rintro e w1 ⟨rfl, hb1⟩)
  go_ret
  exact ⟨rfl, hb1⟩
end Go.Proofs.YtccmalpbejednaaDoor
