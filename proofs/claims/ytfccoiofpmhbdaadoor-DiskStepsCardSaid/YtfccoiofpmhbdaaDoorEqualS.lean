/- slices.Equal over texts. Condition: not too many texts. -/
import Derived.Test.YtfccoiofpmhbdaaDoorBytes1
import Derived.Test.YtfccoiofpmhbdaaDoorNames
namespace Go.Proofs.YtfccoiofpmhbdaaDoor
open Go Go.Proofs Go.RowKit

theorem txt_inj {a b : Txt} (h : txt a = txt b) : a = b := by
  unfold txt at h
  injection h with h
  injection h with h
  simpa using congrArg Array.toList h
set_option maxHeartbeats 1000000 in
theorem equalS (v : Bool) (A A' : Option Addr) (n c n' c' B B' : Nat) (xs ys : List Txt) (w : World) (hr : Reads w B 1 A n (xs.map txt)) (hr' : Reads w B' 1 A' n' (ys.map txt)) (hn : n ≤ 1000000000) (hn' : n' ≤ 1000000000) (hv : decide (xs = ys) = v) :
    Calls Tryd.prog 28 #[.slice A n c, .slice A' n' c'] w fun e w' => e = .returned (.bool v) ∧ Below w.heap.size w w' := by
  have hl : xs.length = n := by have := hr.1; rw [List.length_map] at this; omega
  have hl' : ys.length = n' := by have := hr'.1; rw [List.length_map] at this; omega
  by_cases hnn : n = n'
  · subst hnn
    go_enter Tryd.func28, Tryd.ntmps28
    go_wp2_with (fail)
    go_loopw [13] (fun i wr => ∃ k : Nat, k ≤ n ∧ i = .int .i64 k ∧ Hid (xs.take k = ys.take k) ∧ Below w.heap.size w wr ∧ ∃ q, wr = w.drewN q) (fun i _ => n - (intOf i).toNat)
    case atStart => exact ⟨0, Nat.zero_le _, rfl, Lib.hid rfl, Below.refl _ _, 0, rfl⟩
    case round =>
      obtain ⟨k, hk, rfl, hE, hb, q, rfl⟩ := hrel
      by_cases hlt : k < n
      · obtain ⟨s, hs⟩ : ∃ s, xs[k]? = some s := ⟨xs[k]'(by omega), List.getElem?_eq_getElem (by omega)⟩
        obtain ⟨t, ht⟩ : ∃ t, ys[k]? = some t := ⟨ys[k]'(by omega), List.getElem?_eq_getElem (by omega)⟩
        obtain ⟨ad, rfl, hbl, hc⟩ := hr.2 (by omega)
        obtain ⟨ad', rfl, hbl', hc'⟩ := hr'.2 (by omega)
        have d0 : w.cell? (ad.add k) = some (.string ⟨s.toArray⟩) := hc k (txt s) (by rw [List.getElem?_map, hs]; rfl)
        have f0 : w.cell? (ad'.add k) = some (.string ⟨t.toArray⟩) := hc' k (txt t) (by rw [List.getElem?_map, ht]; rfl)
        have hin0 : (0 : Int) ≤ (k : Int) := by omega
        have hin1 : (k : Int) < (n : Int) := by omega
        have hV := Lib.hid hv
        have hS := Lib.hid hs
        have hT := Lib.hid ht
        clear hr hr' hl hl' hv hs ht hc hc'
        by_cases he : s = t
        · subst he
          go_wp2_with (fail)
          go_quiet (fail)
          go_wp2_with (fail)
          refine ⟨⟨k + 1, by omega, by go_num, Lib.hid (take_snoc_eq' hE.out hS.out hT.out), (Below.refl _ _ |> fun h => bdrewN h _), _, rfl⟩, by simp [intOf]; omega⟩
        · have hF : v = false := by
            rw [← hV.out]
            exact decide_eq_false fun h => he (Option.some.inj (hS.out.symm.trans ((congrArg (·[k]?) h).trans hT.out)))
          have hb1 : (s == t) = false := by simpa using he
          clear he
          subst hF
          go_wp2_with (fail)
          go_quiet (fail)
          go_wp2_with (fail)
          go_ret
          exact ⟨rfl, bdrewN hb _⟩
      · obtain rfl : k = n := by omega
        have hT : v = true := by
          rw [← hv]
          have := hE.out
          rw [List.take_of_length_le (by omega), List.take_of_length_le (by omega)] at this
          exact decide_eq_true this
        subst hT
        clear hv hr hr' hl hl'
        go_wp2_with (fail)
        go_ret
        exact ⟨rfl, hb⟩
  · have hF : v = false := by
      rw [← hv]
      exact decide_eq_false fun h => hnn (by rw [← hl, ← hl', h])
    subst hF
    have hb1 : ((n : Int) == (n' : Int)) = false := by simp; omega
    have hb2 : ((n : Int) != (n' : Int)) = true := by simp; omega
    clear hv hr hr' hl hl'
    go_enter Tryd.func28, Tryd.ntmps28
    go_wp2_with (fail)
    go_ret
    exact ⟨rfl, Below.refl _ _⟩
theorem namesOne (S : Txt → Bool) (k : Txt) (h : ∀ y, S y = true ↔ y = k) (L : List Txt) (hL : NamesAre S L) : L = [k] :=
  NamesAre.unique hL (S' := S) ⟨[k], by simp, fun y => by rw [h y, List.mem_singleton], by simp⟩ fun _ => rfl
end Go.Proofs.YtfccoiofpmhbdaaDoor
