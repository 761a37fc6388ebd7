/- Plain laws of spans: what a cut, a meeting, a difference has; and the calls 'in', 'plain' in the words of these laws. No condition. -/
import Derived.Test.YtfccoiofpmhbdaaDoorLess
namespace Go.Proofs.YtfccoiofpmhbdaaDoor
open Go Go.Proofs Go.RowKit

def inB (lo hi k : Int) : Bool := decide (lo ≤ k) && decide (k ≤ hi)
theorem inB_iff (lo hi k : Int) : inB lo hi k = true ↔ lo ≤ k ∧ k ≤ hi := by simp [inB]

theorem plainF_in (lo hi k : Int) : inB (plainF lo hi).1 (plainF lo hi).2 k = inB lo hi k := by
  rw [Bool.eq_iff_iff, inB_iff, inB_iff]
  unfold plainF
  split <;> simp only <;> omega
theorem plainF_plain (lo hi : Int) : (plainF lo hi).1 ≤ (plainF lo hi).2 ∨ (plainF lo hi).1 = 1 ∧ (plainF lo hi).2 = 0 := by
  unfold plainF
  split
  · exact .inr ⟨rfl, rfl⟩
  · simp only; omega
theorem aboveF_plain (lo hi t : Int) : (aboveF lo hi t).1 ≤ (aboveF lo hi t).2 ∨ (aboveF lo hi t).1 = 1 ∧ (aboveF lo hi t).2 = 0 := by
  unfold aboveF
  split
  · exact .inr ⟨rfl, rfl⟩
  · exact plainF_plain _ _
theorem belowF_plain (lo hi t : Int) : (belowF lo hi t).1 ≤ (belowF lo hi t).2 ∨ (belowF lo hi t).1 = 1 ∧ (belowF lo hi t).2 = 0 := by
  unfold belowF
  split
  · exact .inr ⟨rfl, rfl⟩
  · exact plainF_plain _ _
theorem meetF_plain (a b c d : Int) : (meetF a b c d).1 ≤ (meetF a b c d).2 ∨ (meetF a b c d).1 = 1 ∧ (meetF a b c d).2 = 0 := plainF_plain _ _
theorem one_in (k : Int) : inB 1 0 k = false := by
  rw [← Bool.not_eq_true, inB_iff]; omega
theorem aboveF_in (lo hi t k : Int) : inB (aboveF lo hi t).1 (aboveF lo hi t).2 k = (inB lo hi k && decide (t < k)) := by
  unfold aboveF
  split
  · simp only [one_in]
    rw [Bool.eq_iff_iff]; simp [inB]; omega
  · rw [plainF_in, Bool.eq_iff_iff]; simp [inB]; omega
theorem belowF_in (lo hi t k : Int) : inB (belowF lo hi t).1 (belowF lo hi t).2 k = (inB lo hi k && decide (k < t)) := by
  unfold belowF
  split
  · simp only [one_in]
    rw [Bool.eq_iff_iff]; simp [inB]; omega
  · rw [plainF_in, Bool.eq_iff_iff]; simp [inB]; omega
theorem meetF_in (a b c d k : Int) : inB (meetF a b c d).1 (meetF a b c d).2 k = (inB a b k && inB c d k) := by
  unfold meetF
  rw [plainF_in, Bool.eq_iff_iff]; simp [inB]; omega
theorem meetF_comm (a b c d : Int) : meetF a b c d = meetF c d a b := by
  unfold meetF
  rw [Int.max_comm, Int.min_comm]

def U64 (z : Int) : Prop := 0 ≤ z ∧ z < 18446744073709551616
theorem plainF_u64 {lo hi : Int} (h1 : U64 lo) (h2 : U64 hi) : U64 (plainF lo hi).1 ∧ U64 (plainF lo hi).2 := by
  unfold plainF U64 at *
  split <;> simp only <;> omega
theorem aboveF_u64 {lo hi t : Int} (h1 : U64 lo) (h2 : U64 hi) (h3 : U64 t) : U64 (aboveF lo hi t).1 ∧ U64 (aboveF lo hi t).2 := by
  unfold aboveF
  split
  · unfold U64; simp only; omega
  · exact plainF_u64 (by unfold U64 at *; omega) h2
theorem belowF_u64 {lo hi t : Int} (h1 : U64 lo) (h2 : U64 hi) (h3 : U64 t) : U64 (belowF lo hi t).1 ∧ U64 (belowF lo hi t).2 := by
  unfold belowF
  split
  · unfold U64; simp only; omega
  · exact plainF_u64 h1 (by unfold U64 at *; omega)
theorem meetF_u64 {a b c d : Int} (h1 : U64 a) (h2 : U64 b) (h3 : U64 c) (h4 : U64 d) : U64 (meetF a b c d).1 ∧ U64 (meetF a b c d).2 :=
  plainF_u64 (by unfold U64 at *; omega) (by unfold U64 at *; omega)
theorem lessF_u64 {a b c d : Int} (h1 : U64 a) (h2 : U64 b) (h3 : U64 c) (h4 : U64 d) :
    (U64 (lessF a b c d).1.1 ∧ U64 (lessF a b c d).1.2) ∧ U64 (lessF a b c d).2.1 ∧ U64 (lessF a b c d).2.2 := by
  unfold lessF
  split
  · exact ⟨plainF_u64 h1 h2, by unfold U64; simp only; omega⟩
  · exact ⟨belowF_u64 h1 h2 h3, aboveF_u64 h1 h2 h4⟩

theorem has_is (lo hi t : Int) (v : Bool) (h : inB lo hi t = v) (w : World) :
    Calls Tryd.prog 51 #[.agg #[.int .u64 lo, .int .u64 hi], .int .u64 t] w fun e w' => e = .returned (.bool v) ∧ Below w.heap.size w w' := by
  subst h
  exact has_any lo hi t w
end Go.Proofs.YtfccoiofpmhbdaaDoor
