/- Rows of spans in memory of one's own: slices.Clone, slices.IndexFunc, slices.DeleteFunc at spans: their contracts. No condition. -/
import Derived.Test.YtfccoiofpmhbdaaDoorSets
import Derived.Test.YtfccoiofpmhbdaaDoorLaw1
import Derived.Test.YtfccoiofpmhbdaaDoorShelf
import Derived.Lib.SliceRun
namespace Go.Proofs.YtfccoiofpmhbdaaDoor
open Go Go.Proofs Go.RowKit

theorem info_span : (Tryd.prog.info? 86).map (fun i => (i.zero, i.size, i.bytes)) = some (some (.agg #[.int .u64 0, .int .u64 0]), 2, 16) := by kernel_rfl
/-- A span's two cells. -/
def encS (x : Int × Int) : List Value := [.int .u64 x.1, .int .u64 x.2]
theorem flatS_cons (x : Int × Int) (xs : List (Int × Int)) : flatS (x :: xs) = .int .u64 x.1 :: .int .u64 x.2 :: flatS xs := rfl
theorem flatS_append (xs ys : List (Int × Int)) : flatS (xs ++ ys) = flatS xs ++ flatS ys := by simp [flatS]
theorem flatS_length (xs : List (Int × Int)) : (flatS xs).length = xs.length * 2 := by
  induction xs with
  | nil => rfl
  | cons x xs ih => rw [flatS_cons]; simp [ih]; omega
theorem flatS_one (xs : List (Int × Int)) : ∀ u ∈ flatS xs, u.oneCell' = true := by
  intro u hu
  unfold flatS at hu
  rw [List.mem_flatMap] at hu
  obtain ⟨s, _, hs⟩ := hu
  simp at hs
  rcases hs with rfl | rfl <;> rfl
theorem flatS_all {P : Nat → Value → Prop} (xs : List (Int × Int)) : ∀ o, (∀ j s, xs[j]? = some s → P (o + j * 2) (.int .u64 s.1) ∧ P (o + j * 2 + 1) (.int .u64 s.2)) → ∀ p u, (flatS xs)[p]? = some u → P (o + p) u := by
  induction xs with
  | nil => intro o _ p u h; cases h
  | cons x xs ih =>
    intro o h p u hp
    rw [flatS_cons] at hp
    match p with
    | 0 =>
      obtain rfl := Option.some.inj hp
      simpa using (h 0 x rfl).1
    | 1 =>
      obtain rfl := Option.some.inj hp
      simpa using (h 0 x rfl).2
    | p + 2 =>
      have := ih (o + 2) (fun j s hj => by
        have := h (j + 1) s hj
        rw [show o + (j + 1) * 2 = o + 2 + j * 2 by omega] at this
        exact this) p u (by simpa using hp)
      rw [show o + 2 + p = o + (p + 2) by omega] at this
      exact this
theorem flatS_set (xs : List (Int × Int)) : ∀ (i : Nat) (s : Int × Int), ((flatS xs).set (i * 2) (.int .u64 s.1)).set (i * 2 + 1) (.int .u64 s.2) = flatS (xs.set i s) := by
  induction xs with
  | nil => intro i s; rfl
  | cons x xs ih =>
    intro i s
    match i with
    | 0 => rfl
    | i + 1 =>
      rw [flatS_cons, List.set_cons_succ, flatS_cons, show (i + 1) * 2 = i * 2 + 1 + 1 by omega]
      simp only [List.set_cons_succ]
      rw [ih]
theorem flatS_take (xs : List (Int × Int)) : ∀ m, (flatS xs).take (m * 2) = flatS (xs.take m) := by
  induction xs with
  | nil => intro m; simp [flatS]
  | cons x xs ih =>
    intro m
    match m with
    | 0 => simp [flatS]
    | m + 1 =>
      rw [flatS_cons, show (m + 1) * 2 = m * 2 + 1 + 1 by omega, List.take_succ_cons, List.take_succ_cons, List.take_succ_cons, flatS_cons, ih]
theorem owns_below {w w' : World} {base e size n B : Nat} {v : Value} {xs : List Value} (h : w.ownsRow base e size v n xs) (hb : Below B w w') (hB : w.heap.size ≤ B) : w'.ownsRow base e size v n xs := by
  rcases h with ⟨h1, h2 | ⟨g, cap, cur, rfl, h3, h4, h5⟩⟩
  · exact ⟨h1, .inl h2⟩
  · refine ⟨h1, .inr ⟨g, cap, cur, rfl, h3, ?_, h5⟩⟩
    rw [hb.block _ (Nat.lt_of_lt_of_le (Array.getElem?_eq_some_iff.1 h4).1 hB)]
    exact h4
theorem owns_take {w : World} {base e size n m g cap : Nat} {xs : List Value} (h : w.ownsRow base e size (.slice (some ⟨g, 0, none⟩) n cap) n xs) (hm : m ≤ n) : w.ownsRow base e size (.slice (some ⟨g, 0, none⟩) m cap) m (xs.take (m * size)) := by
  rcases h with ⟨h1, ⟨h2, _⟩ | ⟨g', cap', cur, h2, h3, h4, h5, h6, h7, h8⟩⟩
  · cases h2
  · simp only [Value.slice.injEq, Option.some.injEq, Addr.mk.injEq, and_true, true_and] at h2
    obtain ⟨rfl, rfl⟩ := h2
    have := Nat.mul_le_mul_right size hm
    refine ⟨by rw [List.length_take, h1]; omega, .inr ⟨g, cap, cur, rfl, h3, h4, by omega, h6, h7, ?_⟩⟩
    rw [← h8, List.take_take, Nat.min_eq_left this]
theorem owns_setCells {e size n g cap base : Nat} (vs : List Value) : ∀ (w : World) (o : Nat) (xs : List Value), w.ownsRow base e size (.slice (some ⟨g, 0, none⟩) n cap) n xs →
    ∃ xs', (w.setCells g o vs).ownsRow base e size (.slice (some ⟨g, 0, none⟩) n cap) n xs' ∧ xs'.take o = xs.take o ∧ Below g w (w.setCells g o vs) := by
  induction vs with
  | nil => intro w o xs h; exact ⟨xs, h, rfl, Below.refl _ _⟩
  | cons v vs ih =>
    intro w o xs h
    have h1 := (h.stored o v).1
    obtain ⟨xs', h2, h3, h4⟩ := ih _ (o + 1) _ h1
    refine ⟨xs', h2, ?_, ?_⟩
    · have := congrArg (List.take o) h3
      rw [List.take_take, List.take_take, Nat.min_eq_left (by omega)] at this
      rw [this]
      rw [List.take_set_of_le (by omega)]
    · exact ((Below.refl g w).setCell (p := ⟨g, o, none⟩) (Nat.le_refl _) v).trans h4

theorem cloneAny (A : Option Addr) (n c : Nat) (xs : List (Int × Int)) (w : World) (hl : xs.length = n) (hn : n ≤ 1000000000)
    (h : (A = none ∧ xs = []) ∨ ∃ b off, A = some ⟨b, off, none⟩ ∧ ∀ j s, xs[j]? = some s → w.cell? ⟨b, off + j * 2, none⟩ = some (.int .u64 s.1) ∧ w.cell? ⟨b, off + j * 2 + 1, none⟩ = some (.int .u64 s.2)) :
    Calls Tryd.prog 53 #[.slice A n c] w fun e w' => ∃ v', e = .returned v' ∧ w'.ownsRow w.heap.size 86 2 v' n (flatS xs) ∧ Below w.heap.size w w' := by
  obtain ⟨i0, hi, hz0, hz1, hz2⟩ := info_parts info_span
  rcases h with ⟨rfl, rfl⟩ | ⟨b, off, rfl, hc⟩
  · subst hl
    refine (AnyE.slices_Clone_nil Tryd.cloneSpan 0 c w).mono ?_
    rintro e w' ⟨rfl, rfl⟩
    exact ⟨_, rfl, World.ownsRow_nil _ _ _ _, Below.refl _ _⟩
  · refine (AnyE.slices_Clone Tryd.cloneSpan i0 (.agg #[.int .u64 0, .int .u64 0]) 2 16 hi hz0 hz1 hz2 rfl (by omega) Tryd.sizeOf86 b off n c (flatS xs) w (by rw [flatS_length, hl]) (by unfold maxLen; omega) (by omega)
      (flatS_all (P := fun p u => w.cell? ⟨b, p, none⟩ = some u) xs off hc) (flatS_one xs)).mono ?_
    rintro e w' ⟨v', rfl, h1, _, h2⟩
    exact ⟨v', rfl, h1, h2⟩
theorem emptyPred (w : World) : PredBelow Tryd.prog 54 #[] (fun x => .agg (encS x).toArray) (fun x : Int × Int => decide (x.2 < x.1)) w := fun W x hb =>
  (empty_any x.1 x.2 W).mono fun _ _ ⟨he, hb'⟩ => ⟨he, hb.trans (hb'.mono hb.size)⟩
theorem idxAny (g n c : Nat) (xs : List (Int × Int)) (w : World) (hl : xs.length = n) (hn : n ≤ 1000000000) (hg : g < w.heap.size)
    (hc : ∀ j s, xs[j]? = some s → w.cell? ⟨g, j * 2, none⟩ = some (.int .u64 s.1) ∧ w.cell? ⟨g, j * 2 + 1, none⟩ = some (.int .u64 s.2)) :
    Calls Tryd.prog 71 #[.slice (some ⟨g, 0, none⟩) n c, .func (.func 54) #[] #[]] w fun e w' =>
      e = .returned (.int .i64 (Lib.idxBy (fun _ y : Int × Int => decide (y.2 < y.1)) xs default)) ∧ Below w.heap.size w w' := by
  have eg : ∀ args w, (callFunc 54 args).run Tryd.prog w = .ok (.enter 54 args) w := enters_of Tryd.func54 (by kernel_rfl) rfl
  have h := AnyQ.slices_IndexFunc Tryd.idxSpan 2 Tryd.isAgg86 Tryd.sizeOf86 encS (fun _ => rfl) (fun x : Int × Int => decide (x.2 < x.1)) 54 #[] eg g 0 n c xs w
    (emptyPred w) (by omega) (by omega) hg (fun j hj i v hi => by
      have h1 := hc j xs[j]! (by rw [List.getElem?_eq_getElem hj]; simp [hj])
      generalize xs[j]! = y at hi h1
      rw [Nat.zero_add]
      match i, hi with
      | 0, hi => simp [encS] at hi; rw [← hi]; exact h1.1
      | 1, hi => simp [encS] at hi; rw [← hi]; exact h1.2
      | i + 2, hi => simp [encS] at hi)
  rw [List.take_of_length_le (by omega)] at h
  exact h
theorem idxNil (n c : Nat) (hn : n = 0) (w : World) :
    Calls Tryd.prog 71 #[.slice none n c, .func (.func 54) #[] #[]] w fun e w' => e = .returned (.int .i64 (-1)) ∧ Below w.heap.size w w' := by
  subst hn
  go_enter Tryd.func71, Tryd.ntmps71
  go_wp2_with (fail)
  go_loopw [8] (fun i wr => i = .int .i64 0 ∧ wr = w) (fun _ _ => 0)
  case atStart => exact ⟨rfl, rfl⟩
  case round =>
    obtain ⟨rfl, rfl⟩ := hrel
    go_wp2_with (fail)
    go_ret
    exact ⟨rfl, Below.refl _ _⟩
end Go.Proofs.YtfccoiofpmhbdaaDoor
