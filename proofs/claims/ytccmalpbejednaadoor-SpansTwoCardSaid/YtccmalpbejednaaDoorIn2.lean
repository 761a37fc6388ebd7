/- selionlaw02.in and spans.Set.Has: is a time in a row of spans? No condition but the number of spans. -/
import Derived.Test.YtccmalpbejednaaDoorSpanRow
namespace Go.Proofs.YtccmalpbejednaaDoor
open Go Go.Proofs Go.RowKit

theorem inClo (lo hi t : Int) (g : Nat) (w : World) (hc : w.cell? ⟨g, 0, none⟩ = some (.int .u64 t)) :
    Calls Tryd.prog 50 #[.agg #[.int .u64 lo, .int .u64 hi], .pointer (some ⟨g, 0, none⟩)] w fun e w' => e = .returned (.bool (inB lo hi t)) ∧ Below w.heap.size w w' := by
  have hg := calloc hc (.cells #[.int .u64 lo, .int .u64 hi] 31)
  unfold inB
  by_cases h : lo ≤ t
  · have hd : decide (lo ≤ t) = true := by simpa using h
    rw [hd, Bool.true_and]
    clear hd
    go_enter Tryd.func50, Tryd.ntmps50
    go_wp2
    go_ret
    exact ⟨rfl, (Below.refl _ _).alloc (Nat.le_refl _) _⟩
  · have hd : decide (lo ≤ t) = false := by simpa using h
    rw [hd, Bool.false_and]
    go_enter Tryd.func50, Tryd.ntmps50
    go_wp2
    go_ret
    exact ⟨rfl, (Below.refl _ _).alloc (Nat.le_refl _) _⟩
theorem hasClo (lo hi t : Int) (g : Nat) (w : World) (hc : w.cell? ⟨g, 0, none⟩ = some (.int .u64 t)) :
    Calls Tryd.prog 52 #[.agg #[.int .u64 lo, .int .u64 hi], .pointer (some ⟨g, 0, none⟩)] w fun e w' => e = .returned (.bool (inB lo hi t)) ∧ Below w.heap.size w w' := by
  have hg := calloc hc (.cells #[.int .u64 lo, .int .u64 hi] 31)
  go_enter Tryd.func52, Tryd.ntmps52
  go_wp2_with (go_at_call 53; refine (has_any _ _ _ _).mono ?_; rintro e w1 ⟨rfl, hb1⟩)
  go_ret
  exact ⟨rfl, ((Below.refl _ _).alloc (Nat.le_refl _) _).trans (hb1.mono (by simp))⟩
theorem idxNilSpan (c : Nat) (f : Value) (w : World) :
    Calls Tryd.prog 63 #[.slice none 0 c, f] w fun e w' => e = .returned (.int .i64 (-1)) ∧ Below w.heap.size w w' := by
  go_enter Tryd.func63, Tryd.ntmps63
  go_wp2_with (fail)
  go_loopw [8] (fun i wr => i = .int .i64 0 ∧ wr = w) (fun _ _ => 0)
  case atStart => exact ⟨rfl, rfl⟩
  case round =>
    obtain ⟨rfl, rfl⟩ := hrel
    go_wp2_with (fail)
    go_ret
    exact ⟨rfl, Below.refl _ _⟩
theorem contNilSpan (c : Nat) (f : Value) (w : World) :
    Calls Tryd.prog 49 #[.slice none 0 c, f] w fun e w' => e = .returned (.bool false) ∧ Below w.heap.size w w' := by
  go_enter Tryd.func49, Tryd.ntmps49
  go_wp2_with (go_at_call 63; refine (idxNilSpan _ _ _).mono ?_; rintro e w1 ⟨rfl, hb1⟩)
  go_ret
  exact ⟨rfl, hb1⟩
theorem contSpan (t : Int) (A : Option Addr) (n c B g : Nat) (xs : List (Int × Int)) (w : World) (hr : SpanRow w B A n xs) (hB : B ≤ w.heap.size) (hn : n ≤ 1000000000) (hg : g < w.heap.size) (hc : w.cell? ⟨g, 0, none⟩ = some (.int .u64 t)) :
    Calls Tryd.prog 49 #[.slice A n c, .func (.func 50) #[] #[.pointer (some ⟨g, 0, none⟩)]] w fun e w' => e = .returned (.bool (hasB xs t)) ∧ Below w.heap.size w w' := by
  have eg : ∀ args w, (callFunc 50 args).run Tryd.prog w = .ok (.enter 50 args) w := enters_of Tryd.func50 (by kernel_rfl) rfl
  rcases hr.2 with ⟨rfl, rfl⟩ | ⟨b, off, rfl, hlt, hcells⟩
  · obtain rfl : n = 0 := hr.len.symm
    exact contNilSpan _ _ _
  · have hlen := hr.len
    have hp : PredBelow Tryd.prog 50 #[.pointer (some ⟨g, 0, none⟩)] (fun x => .agg (encS x).toArray) (fun x : Int × Int => inB x.1 x.2 t) w := fun W x hb =>
      (inClo x.1 x.2 t g W (cellk hb (p := ⟨g, 0, none⟩) hg hc)).mono fun _ _ ⟨he, hb'⟩ => ⟨he, hb.trans (hb'.mono hb.size)⟩
    have h := AnyQ.slices_ContainsFunc Tryd.contSpan 2 Tryd.isAgg31 Tryd.sizeOf31 encS (fun _ => rfl) (fun x : Int × Int => inB x.1 x.2 t) 50 #[.pointer (some ⟨g, 0, none⟩)] eg b off n c xs w
      hp (by omega) (by omega) (by omega) (fun j hj i v hi => by
        have h1 := hcells j xs[j]! (by rw [List.getElem?_eq_getElem hj]; simp [hj])
        generalize xs[j]! = y at hi h1
        match i, hi with
        | 0, hi => simp [encS] at hi; rw [← hi]; exact h1.1
        | 1, hi => simp [encS] at hi; rw [← hi]; exact h1.2
        | i + 2, hi => simp [encS] at hi)
    rw [List.take_of_length_le (by omega)] at h
    exact h
theorem inAny (t : Int) (v : Bool) (A : Option Addr) (n c B : Nat) (xs : List (Int × Int)) (w : World) (hr : SpanRow w B A n xs) (hB : B ≤ w.heap.size) (hn : n ≤ 1000000000) (hv : hasB xs t = v) :
    Calls Tryd.prog 19 #[.slice A n c, .int .u64 t] w fun e w' => e = .returned (.bool v) ∧ Below w.heap.size w w' := by
  have HC := contSpan t A n c B w.heap.size xs (w.alloc (.cells #[.int .u64 t] 29)) (hr.below ((Below.refl w.heap.size w).alloc (Nat.le_refl _) _) hB) (by simp; omega) hn (by simp) (by simp)
  rw [hv] at HC
  go_enter Tryd.func19, Tryd.ntmps19
  go_wp2_with (go_at_call 49; refine HC.mono ?_; rintro e w1 ⟨rfl, hb1⟩)
  go_ret
  exact ⟨rfl, ((Below.refl _ _).alloc (Nat.le_refl _) _).trans (hb1.mono (by simp))⟩
theorem idxNilSet (c : Nat) (f : Value) (w : World) :
    Calls Tryd.prog 66 #[.slice none 0 c, f] w fun e w' => e = .returned (.int .i64 (-1)) ∧ Below w.heap.size w w' := by
  go_enter Tryd.func66, Tryd.ntmps66
  go_wp2_with (fail)
  go_loopw [8] (fun i wr => i = .int .i64 0 ∧ wr = w) (fun _ _ => 0)
  case atStart => exact ⟨rfl, rfl⟩
  case round =>
    obtain ⟨rfl, rfl⟩ := hrel
    go_wp2_with (fail)
    go_ret
    exact ⟨rfl, Below.refl _ _⟩
theorem contNilSet (c : Nat) (f : Value) (w : World) :
    Calls Tryd.prog 51 #[.slice none 0 c, f] w fun e w' => e = .returned (.bool false) ∧ Below w.heap.size w w' := by
  go_enter Tryd.func51, Tryd.ntmps51
  go_wp2_with (go_at_call 66; refine (idxNilSet _ _ _).mono ?_; rintro e w1 ⟨rfl, hb1⟩)
  go_ret
  exact ⟨rfl, hb1⟩
theorem contSet (t : Int) (A : Option Addr) (n c B g : Nat) (xs : List (Int × Int)) (w : World) (hr : SpanRow w B A n xs) (hB : B ≤ w.heap.size) (hn : n ≤ 1000000000) (hg : g < w.heap.size) (hc : w.cell? ⟨g, 0, none⟩ = some (.int .u64 t)) :
    Calls Tryd.prog 51 #[.slice A n c, .func (.func 52) #[] #[.pointer (some ⟨g, 0, none⟩)]] w fun e w' => e = .returned (.bool (hasB xs t)) ∧ Below w.heap.size w w' := by
  have eg : ∀ args w, (callFunc 52 args).run Tryd.prog w = .ok (.enter 52 args) w := enters_of Tryd.func52 (by kernel_rfl) rfl
  rcases hr.2 with ⟨rfl, rfl⟩ | ⟨b, off, rfl, hlt, hcells⟩
  · obtain rfl : n = 0 := hr.len.symm
    exact contNilSet _ _ _
  · have hlen := hr.len
    have hp : PredBelow Tryd.prog 52 #[.pointer (some ⟨g, 0, none⟩)] (fun x => .agg (encS x).toArray) (fun x : Int × Int => inB x.1 x.2 t) w := fun W x hb =>
      (hasClo x.1 x.2 t g W (cellk hb (p := ⟨g, 0, none⟩) hg hc)).mono fun _ _ ⟨he, hb'⟩ => ⟨he, hb.trans (hb'.mono hb.size)⟩
    have h := AnyQ.slices_ContainsFunc Tryd.contSet 2 Tryd.isAgg31 Tryd.sizeOf31 encS (fun _ => rfl) (fun x : Int × Int => inB x.1 x.2 t) 52 #[.pointer (some ⟨g, 0, none⟩)] eg b off n c xs w
      hp (by omega) (by omega) (by omega) (fun j hj i v hi => by
        have h1 := hcells j xs[j]! (by rw [List.getElem?_eq_getElem hj]; simp [hj])
        generalize xs[j]! = y at hi h1
        match i, hi with
        | 0, hi => simp [encS] at hi; rw [← hi]; exact h1.1
        | 1, hi => simp [encS] at hi; rw [← hi]; exact h1.2
        | i + 2, hi => simp [encS] at hi)
    rw [List.take_of_length_le (by omega)] at h
    exact h
theorem setHas (t : Int) (v : Bool) (A : Option Addr) (n c B : Nat) (xs : List (Int × Int)) (w : World) (hr : SpanRow w B A n xs) (hB : B ≤ w.heap.size) (hn : n ≤ 1000000000) (hv : hasB xs t = v) :
    Calls Tryd.prog 20 #[.slice A n c, .int .u64 t] w fun e w' => e = .returned (.bool v) ∧ Below w.heap.size w w' := by
  have HC := contSet t A n c B w.heap.size xs (w.alloc (.cells #[.int .u64 t] 29)) (hr.below ((Below.refl w.heap.size w).alloc (Nat.le_refl _) _) hB) (by simp; omega) hn (by simp) (by simp)
  rw [hv] at HC
  go_enter Tryd.func20, Tryd.ntmps20
  go_wp2_with (go_at_call 51; refine HC.mono ?_; rintro e w1 ⟨rfl, hb1⟩)
  go_ret
  exact ⟨rfl, ((Below.refl _ _).alloc (Nat.le_refl _) _).trans (hb1.mono (by simp))⟩
end Go.Proofs.YtccmalpbejednaaDoor
