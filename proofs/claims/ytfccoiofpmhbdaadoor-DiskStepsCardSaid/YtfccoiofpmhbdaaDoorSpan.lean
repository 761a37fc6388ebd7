/- Package span and what the first layer's statements call: each call answers the plain function named beside it and leaves what was there as it was. Condition: the package's variable 'none' holds what its text lays. -/
import Derived.Test.YtfccoiofpmhbdaaDoorBase
namespace Go.Proofs.YtfccoiofpmhbdaaDoor
open Go Go.Proofs Go.RowKit

def plainF (lo hi : Int) : Int × Int := if hi < lo then (1, 0) else (lo, hi)
theorem plainF_empty {lo hi : Int} (h : hi < lo) : plainF lo hi = (1, 0) := if_pos h
theorem plainF_full {lo hi : Int} (h : ¬ hi < lo) : plainF lo hi = (lo, hi) := if_neg h

theorem empty_any (lo hi : Int) (w : World) :
    Calls Tryd.prog 54 #[.agg #[.int .u64 lo, .int .u64 hi]] w fun e w' => e = .returned (.bool (decide (hi < lo))) ∧ Below w.heap.size w w' := by
  go_enter Tryd.func54, Tryd.ntmps54
  go_wp2
  go_ret
  refine ⟨rfl, ?_⟩
  repeat (first | exact Below.refl _ _ | assumption | refine Below.drew ?_ | refine Below.setCell ?_ (by first | (simp; done) | omega | (simp; omega)) _ | refine Below.alloc ?_ (by first | (simp; done) | omega | (simp; omega)) _ | refine bdrewN ?_ _ | refine bstep ?_ (by assumption) (by first | (simp; done) | omega | (simp; omega)))

theorem has_any (lo hi t : Int) (w : World) :
    Calls Tryd.prog 51 #[.agg #[.int .u64 lo, .int .u64 hi], .int .u64 t] w fun e w' => e = .returned (.bool (decide (lo ≤ t) && decide (t ≤ hi))) ∧ Below w.heap.size w w' := by
  by_cases h : lo ≤ t
  · have hd : decide (lo ≤ t) = true := by simpa using h
    rw [hd, Bool.true_and]
    clear hd
    go_enter Tryd.func51, Tryd.ntmps51
    go_wp2
    go_ret
    refine ⟨rfl, ?_⟩
    repeat (first | exact Below.refl _ _ | assumption | refine Below.drew ?_ | refine Below.setCell ?_ (by first | (simp; done) | omega | (simp; omega)) _ | refine Below.alloc ?_ (by first | (simp; done) | omega | (simp; omega)) _ | refine bdrewN ?_ _ | refine bstep ?_ (by assumption) (by first | (simp; done) | omega | (simp; omega)))
  · have hd : decide (lo ≤ t) = false := by simpa using h
    rw [hd, Bool.false_and]
    go_enter Tryd.func51, Tryd.ntmps51
    go_wp2
    go_ret
    refine ⟨rfl, ?_⟩
    repeat (first | exact Below.refl _ _ | assumption | refine Below.drew ?_ | refine Below.setCell ?_ (by first | (simp; done) | omega | (simp; omega)) _ | refine Below.alloc ?_ (by first | (simp; done) | omega | (simp; omega)) _ | refine bdrewN ?_ _ | refine bstep ?_ (by assumption) (by first | (simp; done) | omega | (simp; omega)))

theorem plain_any (lo hi : Int) (w : World) (hn : NoneLaid w) :
    Calls Tryd.prog 68 #[.agg #[.int .u64 lo, .int .u64 hi]] w fun e w' => e = .returned (.agg #[.int .u64 (plainF lo hi).1, .int .u64 (plainF lo hi).2]) ∧ Below w.heap.size w w' := by
  have h0 := hn.lo
  have h1 := hn.hi
  have hz := hn.lt
  have hzA : 1 < w.heap.size + 1 := by omega
  have hzB : 1 < w.heap.size + 1 + 1 := by omega
  have hzC : 1 < w.heap.size + 1 + 1 + 1 := by omega
  have hzD : 1 < w.heap.size + 1 + 1 + 1 + 1 := by omega
  by_cases h : hi < lo
  · rw [plainF_empty h]
    go_enter Tryd.func68, Tryd.ntmps68
    go_wp2_with (go_at_call 54; refine (empty_any _ _ _).mono ?_; rintro e w1 ⟨rfl, hb1⟩; obtain ⟨hc1, hf1⟩ := bcell hb1; have hz1 := hb1.size; (try simp at hz1); have hp1 : 0 < w1.heap.size := (by omega); have hq1 := heap_ne hp1)
    refine bodyPost_ret (v := .agg #[.int .u64 1, .int .u64 0]) (by simp [results, Tryd.results68, go_sem, hc1]) rfl ⟨rfl, ?_⟩
    repeat (first | exact Below.refl _ _ | assumption | refine Below.drew ?_ | refine Below.setCell ?_ (by first | (simp; done) | omega | (simp; omega)) _ | refine Below.alloc ?_ (by first | (simp; done) | omega | (simp; omega)) _ | refine bdrewN ?_ _ | refine bstep ?_ (by assumption) (by first | (simp; done) | omega | (simp; omega)))
  · rw [plainF_full h]
    go_enter Tryd.func68, Tryd.ntmps68
    go_wp2_with (go_at_call 54; refine (empty_any _ _ _).mono ?_; rintro e w1 ⟨rfl, hb1⟩; obtain ⟨hc1, hf1⟩ := bcell hb1; have hz1 := hb1.size; (try simp at hz1); have hp1 : 0 < w1.heap.size := (by omega); have hq1 := heap_ne hp1)
    refine bodyPost_ret (v := .agg #[.int .u64 lo, .int .u64 hi]) (by simp [results, Tryd.results68, go_sem, hc1]) rfl ⟨rfl, ?_⟩
    repeat (first | exact Below.refl _ _ | assumption | refine Below.drew ?_ | refine Below.setCell ?_ (by first | (simp; done) | omega | (simp; omega)) _ | refine Below.alloc ?_ (by first | (simp; done) | omega | (simp; omega)) _ | refine bdrewN ?_ _ | refine bstep ?_ (by assumption) (by first | (simp; done) | omega | (simp; omega)))

def meetF (a b c d : Int) : Int × Int := plainF (max a c) (min b d)
def aboveF (lo hi t : Int) : Int × Int := if hi ≤ t then (1, 0) else plainF (max lo (t + 1)) hi
theorem above_any (lo hi t : Int) (w : World) (hn : NoneLaid w) (ht : 0 ≤ t) (hh : hi < 18446744073709551616) :
    Calls Tryd.prog 70 #[.agg #[.int .u64 lo, .int .u64 hi], .int .u64 t] w fun e w' => e = .returned (.agg #[.int .u64 (aboveF lo hi t).1, .int .u64 (aboveF lo hi t).2]) ∧ Below w.heap.size w w' := by
  have h0 := hn.lo
  have h1 := hn.hi
  have hz := hn.lt
  have hzA : 1 < w.heap.size + 1 := by omega
  have hzB : 1 < w.heap.size + 1 + 1 := by omega
  have hzC : 1 < w.heap.size + 1 + 1 + 1 := by omega
  have hzD : 1 < w.heap.size + 1 + 1 + 1 + 1 := by omega
  by_cases h : hi ≤ t
  · have e : aboveF lo hi t = (1, 0) := if_pos h
    rw [e]
    clear e
    go_enter Tryd.func70, Tryd.ntmps70
    go_wp2_with (fail)
    refine bodyPost_ret (v := .agg #[.int .u64 1, .int .u64 0]) (by simp [results, Tryd.results70, go_sem]) rfl ⟨rfl, ?_⟩
    repeat (first | exact Below.refl _ _ | assumption | refine Below.drew ?_ | refine Below.setCell ?_ (by first | (simp; done) | omega | (simp; omega)) _ | refine Below.alloc ?_ (by first | (simp; done) | omega | (simp; omega)) _ | refine bdrewN ?_ _ | refine bstep ?_ (by assumption) (by first | (simp; done) | omega | (simp; omega)))
  · have e : aboveF lo hi t = plainF (max lo (t + 1)) hi := if_neg h
    rw [e]
    clear e
    go_enter Tryd.func70, Tryd.ntmps70
    go_wp2_with (go_at_call 68; refine (plain_any _ _ _ (hn.next (by repeat (first | exact Below.refl _ _ | assumption | refine Below.drew ?_ | refine Below.setCell ?_ (by first | (simp; done) | omega | (simp; omega)) _ | refine Below.alloc ?_ (by first | (simp; done) | omega | (simp; omega)) _ | refine bdrewN ?_ _ | refine bstep ?_ (by assumption) (by first | (simp; done) | omega | (simp; omega)))))).mono ?_; rintro e w1 ⟨rfl, hb1⟩; obtain ⟨hc1, hf1⟩ := bcell hb1; have hz1 := hb1.size; (try simp at hz1); have hp1 : 0 < w1.heap.size := (by omega); have hq1 := heap_ne hp1)
    refine bodyPost_ret (v := .agg #[.int .u64 (plainF (max lo (t + 1)) hi).1, .int .u64 (plainF (max lo (t + 1)) hi).2]) (by simp [results, Tryd.results70, go_sem, hc1]) rfl ⟨rfl, ?_⟩
    repeat (first | exact Below.refl _ _ | assumption | refine Below.drew ?_ | refine Below.setCell ?_ (by first | (simp; done) | omega | (simp; omega)) _ | refine Below.alloc ?_ (by first | (simp; done) | omega | (simp; omega)) _ | refine bdrewN ?_ _ | refine bstep ?_ (by assumption) (by first | (simp; done) | omega | (simp; omega)))

def belowF (lo hi t : Int) : Int × Int := if t ≤ lo then (1, 0) else plainF lo (min hi (t - 1))
theorem below_any (lo hi t : Int) (w : World) (hn : NoneLaid w) (ht : t < 18446744073709551616) (hl : 0 ≤ lo) :
    Calls Tryd.prog 69 #[.agg #[.int .u64 lo, .int .u64 hi], .int .u64 t] w fun e w' => e = .returned (.agg #[.int .u64 (belowF lo hi t).1, .int .u64 (belowF lo hi t).2]) ∧ Below w.heap.size w w' := by
  have h0 := hn.lo
  have h1 := hn.hi
  have hz := hn.lt
  have hzA : 1 < w.heap.size + 1 := by omega
  have hzB : 1 < w.heap.size + 1 + 1 := by omega
  have hzC : 1 < w.heap.size + 1 + 1 + 1 := by omega
  have hzD : 1 < w.heap.size + 1 + 1 + 1 + 1 := by omega
  by_cases h : t ≤ lo
  · have e : belowF lo hi t = (1, 0) := if_pos h
    rw [e]
    clear e
    go_enter Tryd.func69, Tryd.ntmps69
    go_wp2_with (fail)
    refine bodyPost_ret (v := .agg #[.int .u64 1, .int .u64 0]) (by simp [results, Tryd.results69, go_sem]) rfl ⟨rfl, ?_⟩
    repeat (first | exact Below.refl _ _ | assumption | refine Below.drew ?_ | refine Below.setCell ?_ (by first | (simp; done) | omega | (simp; omega)) _ | refine Below.alloc ?_ (by first | (simp; done) | omega | (simp; omega)) _ | refine bdrewN ?_ _ | refine bstep ?_ (by assumption) (by first | (simp; done) | omega | (simp; omega)))
  · have e : belowF lo hi t = plainF lo (min hi (t - 1)) := if_neg h
    rw [e]
    clear e
    go_enter Tryd.func69, Tryd.ntmps69
    go_wp2_with (go_at_call 68; refine (plain_any _ _ _ (hn.next (by repeat (first | exact Below.refl _ _ | assumption | refine Below.drew ?_ | refine Below.setCell ?_ (by first | (simp; done) | omega | (simp; omega)) _ | refine Below.alloc ?_ (by first | (simp; done) | omega | (simp; omega)) _ | refine bdrewN ?_ _ | refine bstep ?_ (by assumption) (by first | (simp; done) | omega | (simp; omega)))))).mono ?_; rintro e w1 ⟨rfl, hb1⟩; obtain ⟨hc1, hf1⟩ := bcell hb1; have hz1 := hb1.size; (try simp at hz1); have hp1 : 0 < w1.heap.size := (by omega); have hq1 := heap_ne hp1)
    refine bodyPost_ret (v := .agg #[.int .u64 (plainF lo (min hi (t - 1))).1, .int .u64 (plainF lo (min hi (t - 1))).2]) (by simp [results, Tryd.results69, go_sem, hc1]) rfl ⟨rfl, ?_⟩
    repeat (first | exact Below.refl _ _ | assumption | refine Below.drew ?_ | refine Below.setCell ?_ (by first | (simp; done) | omega | (simp; omega)) _ | refine Below.alloc ?_ (by first | (simp; done) | omega | (simp; omega)) _ | refine bdrewN ?_ _ | refine bstep ?_ (by assumption) (by first | (simp; done) | omega | (simp; omega)))

def makeF (lo hi near : Int) : Int × Int :=
  if near % 4 = 0 then (lo, hi) else if near % 4 = 1 then ((-(lo % 20)) % 18446744073709551616, (-(hi % 20)) % 18446744073709551616) else (lo % 30, hi % 30)
theorem makeF_range (lo hi near : Int) (h1 : 0 ≤ lo) (h2 : lo < 18446744073709551616) (h3 : 0 ≤ hi) (h4 : hi < 18446744073709551616) :
    (0 ≤ (makeF lo hi near).1 ∧ (makeF lo hi near).1 < 18446744073709551616) ∧ 0 ≤ (makeF lo hi near).2 ∧ (makeF lo hi near).2 < 18446744073709551616 := by
  unfold makeF
  split
  · exact ⟨⟨h1, h2⟩, h3, h4⟩
  · split
    · simp only; omega
    · simp only; omega

end Go.Proofs.YtfccoiofpmhbdaaDoor
