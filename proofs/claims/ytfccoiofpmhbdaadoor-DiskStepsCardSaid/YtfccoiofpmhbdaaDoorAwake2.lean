/- selionlaw02.Awake: the fixed fact of layer 2 answers true. Condition: the package's variable 'none' holds what its text lays. -/
import Derived.Test.YtfccoiofpmhbdaaDoorSpans4
namespace Go.Proofs.YtfccoiofpmhbdaaDoor
open Go Go.Proofs Go.RowKit

theorem two_sorted (ys : List (Int × Int)) (h : ys.Perm (delF [(5, 9), (1, 4)])) (hs : ys.Pairwise (fun a b => a.1 ≤ b.1)) : ys = [(1, 4), (5, 9)] := by
  have hd : delF [(5, 9), (1, 4)] = [(5, 9), (1, 4)] := by decide
  rw [hd] at h
  have hl := h.length_eq
  match ys, hl with
  | [a, b], _ =>
    have ha : a ∈ [((5, 9) : Int × Int), (1, 4)] := h.subset (by simp)
    have hb : b ∈ [((5, 9) : Int × Int), (1, 4)] := h.subset (by simp)
    have h1 : ((5, 9) : Int × Int) ∈ [a, b] := h.symm.subset (by simp)
    have h2 : ((1, 4) : Int × Int) ∈ [a, b] := h.symm.subset (by simp)
    simp at ha hb hs
    rcases ha with rfl | rfl <;> rcases hb with rfl | rfl
    · simp at h2
    · simp at hs
    · rfl
    · simp at h1
theorem merge_two : mergeF [(1, 4), (5, 9)] = [(1, 9)] := by decide
set_option maxHeartbeats 1000000 in
theorem awake2_any (w : World) (hn : NoneLaid w) : Calls Tryd.prog 35 #[] w fun e w' => e = .returned (.bool true) ∧ Below w.heap.size w w' := by
  go_enter Tryd.func35, Tryd.ntmps35
  go_wp2_with (first
    | (go_at_call 44; refine (awake_any _ hn).mono ?_; rintro e w1 ⟨rfl, hb1⟩; have hz1 := hb1.size)
    | (go_at_call 45; refine (ofAny _ 2 2 [(5, 9), (1, 4)] _ rfl (by omega) (.inr ⟨_, 0, rfl, fun j s hj => by (have h3 := flatS_get _ j s hj; simp only [Nat.zero_add]; exact flat_cells (heap_new_at (by simp)) j s hj)⟩)).mono ?_; rintro e w2 ⟨v2, ys, rfl, hp, hs, hown, hb2⟩; obtain rfl := two_sorted ys hp hs; rw [merge_two] at hown; have hz2 := hb2.size; simp at hz2; obtain ⟨g, cap, rfl, hg, hgl, hnc⟩ := (owns_form2 hown).resolve_left (by rintro ⟨_, h⟩; cases h); obtain ⟨k0, k1⟩ := cells_of hown 0 (1, 9) rfl; simp only [Nat.zero_mul, Nat.zero_add] at k0 k1))
  go_ret
  refine ⟨by simp, ?_⟩
  repeat (first | exact Below.refl _ _ | assumption | refine Below.drew ?_ | refine Below.setCell ?_ (by first | (simp; done) | omega | (simp; omega)) _ | refine Below.alloc ?_ (by first | (simp; done) | omega | (simp; omega)) _ | refine bdrewN ?_ _ | refine bstep ?_ (by assumption) (by first | (simp; done) | omega | (simp; omega)))
end Go.Proofs.YtfccoiofpmhbdaaDoor
