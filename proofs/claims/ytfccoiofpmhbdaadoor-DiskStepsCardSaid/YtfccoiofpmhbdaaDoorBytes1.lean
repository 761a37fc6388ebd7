/- Rows of bytes: slices.Clone, slices.Equal at them. Condition: not too many bytes. -/
import Derived.Test.YtfccoiofpmhbdaaDoorDisk1
import Derived.Test.YtfccoiofpmhbdaaDoorAwake3
namespace Go.Proofs.YtfccoiofpmhbdaaDoor
open Go Go.Proofs Go.RowKit

theorem info_u8 : (Tryd.prog.info? 5).map (fun i => (i.zero, i.size, i.bytes)) = some (some (.int .u8 0), 1, 1) := by kernel_rfl
theorem RowW.reads {w : World} {e : TypeId} {n : Nat} {xs : List Value} {A : Option Addr} {c : Nat} (h : RowW w e (.slice A n c) n xs) : Reads w w.heap.size 1 A n xs := by
  refine ⟨by rw [h.1]; omega, fun hn => ?_⟩
  have hl := h.1
  obtain ⟨u, hu⟩ : ∃ u, xs[0]? = some u := ⟨xs[0]'(by omega), List.getElem?_eq_getElem (by omega)⟩
  obtain ⟨g, c', he, hg, _, _⟩ := h.at_ hu
  injection he with he _ _
  subst he
  refine ⟨_, rfl, hg, fun j u hu => ?_⟩
  rw [show (⟨g, 0, none⟩ : Addr).add j = ⟨g, j, none⟩ by unfold Addr.add; split <;> simp_all]
  exact h.cells rfl j u hu
theorem Reads.mod {w w' : World} {B size n : Nat} {A : Option Addr} {xs : List Value} {F : Nat → Prop} (h : Reads w B size A n xs) (hm : Mod F w w') (hB : B ≤ w.heap.size) (hn : ∀ g, A.map (·.block) = some g → 0 < n → ¬ F g) : Reads w' B size A n xs :=
  ⟨h.1, fun hp => by
    obtain ⟨ad, rfl, hb, hc⟩ := h.2 hp
    exact ⟨ad, rfl, hb, fun j u hu => (hm.cell (p := ad.add j) (by rw [block_of_add]; omega) (by rw [block_of_add]; exact hn _ rfl hp)).trans (hc j u hu)⟩⟩
set_option maxHeartbeats 1000000 in
set_option maxRecDepth 100000 in
theorem cloneB (A : Option Addr) (n c B : Nat) (xs : List Value) (w : World) (hr : Reads w B 1 A n xs) (hB : B ≤ w.heap.size) (h1 : ∀ u ∈ xs, u.oneCell' = true) (hn : n ≤ 1000000000) :
    Calls Tryd.prog 25 #[.slice A n c] w fun e w' => ∃ v, e = .returned v ∧ w'.ownsRow w.heap.size 5 1 v n xs ∧ Below w.heap.size w w' := by
  obtain ⟨i0, hi, hz0, hz1, hz2⟩ := info_parts info_u8
  have hnil : ∀ (a : Option Addr) (n c : Nat) (w : World), (binOp .eql 30 (.slice a n c) (.slice none 0 0)).run Tryd.prog w = .ok (.bool a.isNone) w := fun a n c w => Lib.run_eql_slice_nil w _ _ a n c 0 0 Tryd.underlying30
  rcases A with _ | ad
  · have h0 : n = 0 := by
      rcases Nat.eq_zero_or_pos n with h | h
      · exact h
      · obtain ⟨_, h, _⟩ := hr.2 h
        cases h
    subst h0
    have hx : xs = [] := List.eq_nil_of_length_eq_zero (by simpa using hr.1)
    subst hx
    go_enter Tryd.func25, Tryd.ntmps25
    go_wp2_with (fail)
    go_ret
    exact ⟨_, rfl, World.ownsRow_nil _ _ _ _, Below.refl _ _⟩
  · have HR := Lib.hid (hr.alloc hB (.cells #[] 5))
    clear hr
    go_enter Tryd.func25, Tryd.ntmps25
    go_wp2_with (at_builtin; (refine wpList_append_any _ rfl (.tmp 5) (.tmp 6) 30 rfl w.heap.size 5 i0 (.int .u8 0) 1 1 Tryd.underlying30 hi hz0 hz1 hz2 rfl (by decide) (.slice (some ⟨w.heap.size, 0, none⟩) 0 0) 0 [] rfl (owns_new (heap_alloc_new _ _) (Nat.zero_le _) rfl (Nat.le_refl _)) B (some ad) n c xs rfl HR.out h1 (by unfold maxLen; omega) (by omega) (by simp) ?_; intro v5 w5 hown5 hgr5 _))
    go_ret
    refine ⟨v5, rfl, by simpa using hown5, ((Below.refl _ _).alloc (Nat.le_refl _) _).grown hgr5 (by simp) (fun j hj => by (have e : w.heap.size = j := by simpa [Value.ownBlock] using hj); omega)⟩
theorem take_snoc_eq' {α : Type} {xs ys : List α} {k : Nat} {s : α} (h : xs.take k = ys.take k) (hx : xs[k]? = some s) (hy : ys[k]? = some s) : xs.take (k + 1) = ys.take (k + 1) := by
  rw [List.take_add_one, List.take_add_one, h, hx, hy]
set_option maxHeartbeats 1000000 in
theorem equalB (v : Bool) (A A' : Option Addr) (n c n' c' B B' : Nat) (xs ys : List UInt8) (w : World) (hr : Reads w B 1 A n (bv xs)) (hr' : Reads w B' 1 A' n' (bv ys)) (hn : n ≤ 1000000000) (hn' : n' ≤ 1000000000) (hv : decide (xs = ys) = v) :
    Calls Tryd.prog 33 #[.slice A n c, .slice A' n' c'] w fun e w' => e = .returned (.bool v) ∧ Below w.heap.size w w' := by
  have hl : xs.length = n := by have := hr.1; rw [bv_length] at this; omega
  have hl' : ys.length = n' := by have := hr'.1; rw [bv_length] at this; omega
  by_cases hnn : n = n'
  · subst hnn
    go_enter Tryd.func33, Tryd.ntmps33
    go_wp2_with (fail)
    go_loopw [13] (fun i wr => ∃ k : Nat, k ≤ n ∧ i = .int .i64 k ∧ Hid (xs.take k = ys.take k) ∧ Below w.heap.size w wr ∧ ∃ q, wr = w.drewN q) (fun i _ => n - (intOf i).toNat)
    case atStart => exact ⟨0, Nat.zero_le _, rfl, Lib.hid rfl, Below.refl _ _, 0, rfl⟩
    case round =>
      obtain ⟨k, hk, rfl, hE, hb, q, rfl⟩ := hrel
      by_cases hlt : k < n
      · obtain ⟨s, hs⟩ : ∃ s, xs[k]? = some s := ⟨xs[k]'(by omega), List.getElem?_eq_getElem (by omega)⟩
        obtain ⟨t, ht⟩ : ∃ t, ys[k]? = some t := ⟨ys[k]'(by omega), List.getElem?_eq_getElem (by omega)⟩
        obtain ⟨ad, rfl, hbl, hc⟩ := hr.2 (by omega)
        obtain ⟨ad', rfl, hbl', hc'⟩ := hr'.2 (by omega)
        have d0 : w.cell? (ad.add k) = some (.int .u8 s.toNat) := hc k _ (bv_get hs)
        have f0 : w.cell? (ad'.add k) = some (.int .u8 t.toNat) := hc' k _ (bv_get ht)
        have hin0 : (0 : Int) ≤ (k : Int) := by omega
        have hin1 : (k : Int) < (n : Int) := by omega
        have hV := Lib.hid hv
        have hS := Lib.hid hs
        have hT := Lib.hid ht
        clear hr hr' hl hl' hv hs ht hc hc'
        by_cases he : s = t
        · subst he
          go_wp2_with (fail)
          go_quiet (fail)
          go_wp2_with (fail)
          refine ⟨⟨k + 1, by omega, by go_num, Lib.hid (take_snoc_eq' hE.out hS.out hT.out), (Below.refl _ _ |> fun h => bdrewN h _), _, rfl⟩, by simp [intOf]; omega⟩
        · have hF : v = false := by
            rw [← hV.out]
            exact decide_eq_false fun h => he (Option.some.inj (hS.out.symm.trans ((congrArg (·[k]?) h).trans hT.out)))
          have hb1 : ((s.toNat : Int) == (t.toNat : Int)) = false := by
            simp only [beq_eq_false_iff_ne, ne_eq]
            intro h
            exact he (UInt8.toNat_inj.1 (by omega))
          clear he
          subst hF
          go_wp2_with (fail)
          go_quiet (fail)
          go_wp2_with (fail)
          go_ret
          exact ⟨rfl, bdrewN hb _⟩
      · obtain rfl : k = n := by omega
        have hT : v = true := by
          rw [← hv]
          have := hE.out
          rw [List.take_of_length_le (by omega), List.take_of_length_le (by omega)] at this
          exact decide_eq_true this
        subst hT
        clear hv hr hr' hl hl'
        go_wp2_with (fail)
        go_ret
        exact ⟨rfl, hb⟩
  · have hF : v = false := by
      rw [← hv]
      exact decide_eq_false fun h => hnn (by rw [← hl, ← hl', h])
    subst hF
    have hb1 : ((n : Int) == (n' : Int)) = false := by simp; omega
    have hb2 : ((n : Int) != (n' : Int)) = true := by simp; omega
    clear hv hr hr' hl hl'
    go_enter Tryd.func33, Tryd.ntmps33
    go_wp2_with (fail)
    go_ret
    exact ⟨rfl, Below.refl _ _⟩
end Go.Proofs.YtfccoiofpmhbdaaDoor
