/- slices.SortFunc at spans of one's own, by their first times: the row holds the same spans, rising. No condition. -/
import Derived.Test.YtfccoiofpmhbdaaDoorSpans2
namespace Go.Proofs.YtfccoiofpmhbdaaDoor
open Go Go.Proofs Go.RowKit

def cmpLo (x y : Int × Int) : Int := Lib.compareInt x.1 y.1
theorem ltLo (x y : Int × Int) : ltOf cmpLo x y = decide (x.1 < y.1) := by
  unfold ltOf cmpLo Lib.compareInt
  by_cases h1 : x.1 < y.1
  · simp [h1]
  · by_cases h2 : y.1 < x.1 <;> simp [h1, h2]
theorem swoLo : Go.Sort.SWO (ltOf cmpLo) where
  irrefl x := by rw [ltLo]; simp
  trans x y z h1 h2 := by rw [ltLo] at *; simp at *; omega
  ntrans x y z h1 h2 := by rw [ltLo] at *; simp at *; omega
set_option maxHeartbeats 1000000 in
theorem cmpClosure (x y : Int × Int) (W : World) : Calls Tryd.prog 56 #[.agg #[.int .u64 x.1, .int .u64 x.2], .agg #[.int .u64 y.1, .int .u64 y.2]] W fun e w' =>
    e = .returned (.int .i64 (cmpLo x y)) ∧ ∃ q os', w' = Go.Sort.grow (W.drewN q) os' := by
  unfold cmpLo Lib.compareInt
  by_cases h1 : x.1 < y.1
  · rw [if_pos h1]
    go_enter Tryd.func56, Tryd.ntmps56
    go_wp2
    go_ret
    exact ⟨rfl, 0, _, by rw [Go.Sort.alloc_eq_grow, Go.Sort.alloc_eq_grow, Go.Sort.grow_grow]; rfl⟩
  · rw [if_neg h1]
    by_cases h2 : x.1 > y.1
    · rw [if_pos h2]
      go_enter Tryd.func56, Tryd.ntmps56
      go_wp2
      go_ret
      exact ⟨rfl, 0, _, by rw [Go.Sort.alloc_eq_grow, Go.Sort.alloc_eq_grow, Go.Sort.grow_grow]; rfl⟩
    · rw [if_neg h2]
      go_enter Tryd.func56, Tryd.ntmps56
      go_wp2
      go_ret
      exact ⟨rfl, 0, _, by rw [Go.Sort.alloc_eq_grow, Go.Sort.alloc_eq_grow, Go.Sort.grow_grow]; rfl⟩
theorem below_sorted (B g n : Nat) (w : World) (d : Array (Int × Int)) (os : Array Obj) (hg : B ≤ g) (hB : B ≤ w.heap.size) : Below B w (sortWorldK encS 2 w g 0 n d os) := by
  unfold sortWorldK Go.Sort.putRowK Go.Sort.putRow Go.Sort.mapBlock Go.Sort.grow Go.Sort.ahead
  refine ⟨rfl, rfl, rfl, by simp, fun k hk => ?_⟩
  simp only
  rw [Array.getElem?_append_left (by simp; omega), Array.getElem?_modify, if_neg (by omega)]
theorem holds_of {w : World} {B g n cap : Nat} {xs : List (Int × Int)} {t : TypeId} (h : w.ownsRow B t 2 (.slice (some ⟨g, 0, none⟩) n cap) n (flatS xs)) : Go.Sort.HoldsK encS 2 w g 0 xs.toArray := by
  have hl := h.1
  rw [flatS_length] at hl
  intro j hj
  rw [Go.Sort.size_flatK] at hj
  simp only [List.size_toArray] at hj
  have hq : j / 2 < xs.length := by omega
  have hxj : xs[j / 2]? = some xs[j / 2] := List.getElem?_eq_getElem hq
  have h2 := cells_of h (j / 2) _ hxj
  rw [Nat.zero_add]
  refine ⟨?_, h.frozenAt j⟩
  rw [Go.Sort.get_flatK _ _ _ _ (by simpa using hj)]
  have hx : xs.toArray[j / 2]! = xs[j / 2] := by simp [hq]
  rw [hx]
  rcases (by omega : j % 2 = 0 ∨ j % 2 = 1) with hm | hm
  · have e : j / 2 * 2 = j := by omega
    have h3 := h2.1
    rw [e] at h3
    rw [hm]
    exact h3
  · have e : j / 2 * 2 + 1 = j := by omega
    have h3 := h2.2
    rw [e] at h3
    rw [hm]
    exact h3
set_option maxHeartbeats 1000000 in
theorem sortAny (B g n cap : Nat) (xs : List (Int × Int)) (w : World) (hown : w.ownsRow B 86 2 (.slice (some ⟨g, 0, none⟩) n cap) n (flatS xs)) (hg : B ≤ g) (hgl : g < w.heap.size) (hB : B ≤ w.heap.size) (hn : n ≤ 1000000000) :
    Calls Tryd.prog 55 #[.slice (some ⟨g, 0, none⟩) n cap, .func (.func 56) #[] #[]] w fun e w' =>
      e = .returned (.tuple #[]) ∧ Below B w w' ∧ ∃ ys : List (Int × Int), ys.Perm xs ∧ ys.Pairwise (fun a b => a.1 ≤ b.1) ∧
        ∀ j s, ys[j]? = some s → w'.cell? ⟨g, j * 2, none⟩ = some (.int .u64 s.1) ∧ w'.cell? ⟨g, j * 2 + 1, none⟩ = some (.int .u64 s.2) := by
  have hl : xs.length = n := by
    have := hown.1
    rw [flatS_length] at this
    omega
  have eg : ∀ args w, (callFunc 56 args).run Tryd.prog w = .ok (.enter 56 args) w := enters_of Tryd.func56 (by kernel_rfl) rfl
  have hH := holds_of hown
  have h := AnyQ.slices_SortFunc Tryd.sortSpan 2 Tryd.isAgg86 Tryd.sizeOf86 encS (fun _ => rfl) (fun x v hv => by simp [encS] at hv; rcases hv with rfl | rfl <;> rfl) cmpLo swoLo 56 #[] g 0 cap xs.toArray w eg
    (fun _ _ _ _ x y => cmpClosure x y _) hH hgl (by simp; omega)
  simp only [List.size_toArray, hl] at h
  refine Calls.mono h ?_
  rintro e w' ⟨rfl, d', m, os, hp, hs, rfl⟩
  have hsz : d'.size = n := by rw [hp.1]; simp [hl]
  refine ⟨rfl, below_sorted B g m w d' os hg hB, d'.toList, ?_, ?_, ?_⟩
  · have h2 := hp.2.2
    rw [Array.extract_eq_self_of_le (by omega), Array.extract_eq_self_of_le (by simp; omega)] at h2
    exact h2
  · rw [List.pairwise_iff_getElem]
    intro i j hi hj hij
    have h2 := hs i j (Nat.zero_le _) hij (by simp at hj; omega)
    rw [ltLo] at h2
    simp at hi hj
    simp [hi, hj] at h2
    simpa using h2
  · intro j s hj
    have hlt := (List.getElem?_eq_some_iff.1 hj).1
    simp at hlt
    have hHK := holdsK_sortWorldK encS 2 w g 0 m xs.toArray d' os hgl hH (by simp [hsz, hl])
    have a0 := (hHK.cell (i := j) (c := 0) hlt (by omega)).1
    have a1 := (hHK.cell (i := j) (c := 1) hlt (by omega)).1
    have hd : d'[j]! = s := by
      simp [hlt] at hj
      simp [hlt, hj]
    rw [hd] at a0 a1
    simp only [Nat.zero_add, Nat.add_zero] at a0 a1
    exact ⟨a0, a1⟩
end Go.Proofs.YtfccoiofpmhbdaaDoor
