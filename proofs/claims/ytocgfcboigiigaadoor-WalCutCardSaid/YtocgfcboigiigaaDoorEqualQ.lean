/- slices.Equal over bytes draws, and does nothing else. Condition: not too many bytes. -/
import Derived.Test.YtocgfcboigiigaaDoorBytes1
namespace Go.Proofs.YtocgfcboigiigaaDoor
open Go Go.Proofs Go.RowKit

set_option maxHeartbeats 1000000 in
theorem equalBq (v : Bool) (A A' : Option Addr) (n c n' c' B B' : Nat) (xs ys : List UInt8) (w : World) (hr : Reads w B 1 A n (bv xs)) (hr' : Reads w B' 1 A' n' (bv ys)) (hn : n ≤ 1000000000) (hn' : n' ≤ 1000000000) (hv : decide (xs = ys) = v) :
    Calls Tryd.prog 19 #[.slice A n c, .slice A' n' c'] w fun e w' => e = .returned (.bool v) ∧ ∃ q, w' = w.drewN q := by
  have hl : xs.length = n := by have := hr.1; rw [bv_length] at this; omega
  have hl' : ys.length = n' := by have := hr'.1; rw [bv_length] at this; omega
  by_cases hnn : n = n'
  · subst hnn
    go_enter Tryd.func19, Tryd.ntmps19
    go_wp2_with (fail)
    go_loopw [13] (fun i wr => ∃ k : Nat, k ≤ n ∧ i = .int .i64 k ∧ Hid (xs.take k = ys.take k) ∧ ∃ q, wr = w.drewN q) (fun i _ => n - (intOf i).toNat)
    case atStart => exact ⟨0, Nat.zero_le _, rfl, Lib.hid rfl, 0, rfl⟩
    case round =>
      obtain ⟨k, hk, rfl, hE, q, rfl⟩ := hrel
      by_cases hlt : k < n
      · obtain ⟨s, hs⟩ : ∃ s, xs[k]? = some s := ⟨xs[k]'(by omega), List.getElem?_eq_getElem (by omega)⟩
        obtain ⟨t, ht⟩ : ∃ t, ys[k]? = some t := ⟨ys[k]'(by omega), List.getElem?_eq_getElem (by omega)⟩
        obtain ⟨ad, rfl, hbl, hc⟩ := hr.2 (by omega)
        obtain ⟨ad', rfl, hbl', hc'⟩ := hr'.2 (by omega)
        have d0 : w.cell? (ad.add k) = some (.int .u8 s.toNat) := hc k _ (bv_get hs)
        have f0 : w.cell? (ad'.add k) = some (.int .u8 t.toNat) := hc' k _ (bv_get ht)
        have hin0 : (0 : Int) ≤ (k : Int) := by omega
        have hin1 : (k : Int) < (n : Int) := by omega
        have hV := Lib.hid hv
        have hS := Lib.hid hs
        have hT := Lib.hid ht
        clear hr hr' hl hl' hv hs ht hc hc'
        by_cases he : s = t
        · subst he
          go_wp2_with (fail)
          go_quiet (fail)
          go_wp2_with (fail)
          refine ⟨⟨k + 1, by omega, by go_num, Lib.hid (take_snoc_eq' hE.out hS.out hT.out), _, rfl⟩, by simp [intOf]; omega⟩
        · have hF : v = false := by
            rw [← hV.out]
            exact decide_eq_false fun h => he (Option.some.inj (hS.out.symm.trans ((congrArg (·[k]?) h).trans hT.out)))
          have hb1 : ((s.toNat : Int) == (t.toNat : Int)) = false := by
            simp only [beq_eq_false_iff_ne, ne_eq]
            intro h
            exact he (UInt8.toNat_inj.1 (by omega))
          clear he
          subst hF
          go_wp2_with (fail)
          go_quiet (fail)
          go_wp2_with (fail)
          go_ret
          exact ⟨rfl, q + nq, by simp⟩
      · obtain rfl : k = n := by omega
        have hT : v = true := by
          rw [← hv]
          have := hE.out
          rw [List.take_of_length_le (by omega), List.take_of_length_le (by omega)] at this
          exact decide_eq_true this
        subst hT
        clear hv hr hr' hl hl'
        go_wp2_with (fail)
        go_ret
        exact ⟨rfl, _, rfl⟩
  · have hF : v = false := by
      rw [← hv]
      exact decide_eq_false fun h => hnn (by rw [← hl, ← hl', h])
    subst hF
    have hb1 : ((n : Int) == (n' : Int)) = false := by simp; omega
    have hb2 : ((n : Int) != (n' : Int)) = true := by simp; omega
    clear hv hr hr' hl hl'
    go_enter Tryd.func19, Tryd.ntmps19
    go_wp2_with (fail)
    go_ret
    exact ⟨rfl, 0, rfl⟩
end Go.Proofs.YtocgfcboigiigaaDoor
