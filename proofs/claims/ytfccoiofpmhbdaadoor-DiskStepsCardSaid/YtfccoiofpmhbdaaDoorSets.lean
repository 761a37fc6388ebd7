/- Plain laws of sets of spans: the sorted spans with times, those that touch put together, are a good set with the same times; a good set is told by its times. No condition. -/
import Derived.Test.YtfccoiofpmhbdaaDoorSpanLaws
namespace Go.Proofs.YtfccoiofpmhbdaaDoor
open Go Go.Proofs

/-- What is left: the spans with times. -/
def delF (xs : List (Int × Int)) : List (Int × Int) := xs.filter fun s => decide (s.1 ≤ s.2)
/-- One more span to the right of a set: put to the last one, if it touches it. -/
def stepF (out : List (Int × Int)) (s : Int × Int) : List (Int × Int) := match out.getLast? with
  | none => [s]
  | some t => if s.1 ≤ t.2 ∨ IntKind.u64.wrap (s.1 - 1) = t.2 then out.set (out.length - 1) (t.1, max t.2 s.2) else out ++ [s]
def mergeF (xs : List (Int × Int)) : List (Int × Int) := xs.foldl stepF []

/-- Is a time in one of them? -/
def hasB (l : List (Int × Int)) (t : Int) : Bool := l.any fun s => inB s.1 s.2 t
theorem hasB_iff (l : List (Int × Int)) (t : Int) : hasB l t = true ↔ ∃ s ∈ l, s.1 ≤ t ∧ t ≤ s.2 := by
  unfold hasB
  rw [List.any_eq_true]
  exact ⟨fun ⟨s, h, h'⟩ => ⟨s, h, (inB_iff _ _ _).1 h'⟩, fun ⟨s, h, h'⟩ => ⟨s, h, (inB_iff _ _ _).2 h'⟩⟩
theorem hasB_nil (t : Int) : hasB [] t = false := rfl
theorem hasB_cons (s : Int × Int) (l : List (Int × Int)) (t : Int) : hasB (s :: l) t = (inB s.1 s.2 t || hasB l t) := rfl
theorem hasB_append (l m : List (Int × Int)) (t : Int) : hasB (l ++ m) t = (hasB l t || hasB m t) := by unfold hasB; rw [List.any_append]
theorem hasB_one (s : Int × Int) (t : Int) : hasB [s] t = inB s.1 s.2 t := by simp [hasB]
theorem hasB_perm {l m : List (Int × Int)} (h : l.Perm m) (t : Int) : hasB l t = hasB m t := by
  rw [Bool.eq_iff_iff, hasB_iff, hasB_iff]
  exact ⟨fun ⟨s, h1, h2⟩ => ⟨s, h.mem_iff.1 h1, h2⟩, fun ⟨s, h1, h2⟩ => ⟨s, h.mem_iff.2 h1, h2⟩⟩
theorem hasB_same {l m : List (Int × Int)} (h : ∀ s, s ∈ l ↔ s ∈ m) (t : Int) : hasB l t = hasB m t := by
  rw [Bool.eq_iff_iff, hasB_iff, hasB_iff]
  exact ⟨fun ⟨s, h1, h2⟩ => ⟨s, (h s).1 h1, h2⟩, fun ⟨s, h1, h2⟩ => ⟨s, (h s).2 h1, h2⟩⟩
theorem hasB_delF (l : List (Int × Int)) (t : Int) : hasB (delF l) t = hasB l t := by
  rw [Bool.eq_iff_iff, hasB_iff, hasB_iff]
  unfold delF
  constructor
  · rintro ⟨s, h1, h2⟩
    exact ⟨s, (List.mem_filter.1 h1).1, h2⟩
  · rintro ⟨s, h1, h2⟩
    exact ⟨s, List.mem_filter.2 ⟨h1, by simp; omega⟩, h2⟩

/-- A set: spans with times, rising, a time between. -/
def goodS (l : List (Int × Int)) : Prop := (∀ s ∈ l, 0 ≤ s.1 ∧ s.1 ≤ s.2 ∧ s.2 < 18446744073709551616) ∧ l.Pairwise (fun a b => a.2 + 1 < b.1)
theorem goodS_nil : goodS [] := ⟨by simp, .nil⟩
theorem goodS_cons {s : Int × Int} {l : List (Int × Int)} : goodS (s :: l) ↔ (0 ≤ s.1 ∧ s.1 ≤ s.2 ∧ s.2 < 18446744073709551616) ∧ (∀ b ∈ l, s.2 + 1 < b.1) ∧ goodS l := by
  unfold goodS
  rw [List.pairwise_cons]
  constructor
  · rintro ⟨h1, h2, h3⟩
    exact ⟨h1 s List.mem_cons_self, h2, fun x hx => h1 x (List.mem_cons_of_mem _ hx), h3⟩
  · rintro ⟨h1, h2, h3, h4⟩
    refine ⟨fun x hx => ?_, h2, h4⟩
    rcases List.mem_cons.1 hx with rfl | hx
    · exact h1
    · exact h3 x hx
theorem goodS_snoc {s : Int × Int} {l : List (Int × Int)} : goodS (l ++ [s]) ↔ goodS l ∧ (∀ b ∈ l, b.2 + 1 < s.1) ∧ (0 ≤ s.1 ∧ s.1 ≤ s.2 ∧ s.2 < 18446744073709551616) := by
  unfold goodS
  rw [List.pairwise_append]
  constructor
  · rintro ⟨h1, h2, _, h3⟩
    exact ⟨⟨fun x hx => h1 x (List.mem_append_left _ hx), h2⟩, fun b hb => h3 b hb s (by simp), h1 s (by simp)⟩
  · rintro ⟨⟨h1, h2⟩, h3, h4⟩
    refine ⟨fun x hx => ?_, h2, by simp, fun b hb x hx => ?_⟩
    · rcases List.mem_append.1 hx with hx | hx
      · exact h1 x hx
      · obtain rfl : x = s := by simpa using hx
        exact h4
    · obtain rfl : x = s := by simpa using hx
      exact h3 b hb
theorem goodS_above {s : Int × Int} {l : List (Int × Int)} (h : goodS (s :: l)) {t : Int} (ht : hasB l t = true) : s.2 + 1 < t := by
  obtain ⟨x, hx, h1⟩ := (hasB_iff _ _).1 ht
  have := (goodS_cons.1 h).2.1 x hx
  omega
/-- A set is told by its times. -/
theorem good_ext : ∀ {l m : List (Int × Int)}, goodS l → goodS m → (∀ t, hasB l t = hasB m t) → l = m := by
  intro l
  induction l with
  | nil =>
    intro m _ hm h
    cases m with
    | nil => rfl
    | cons s r =>
      have := h s.1
      rw [hasB_nil, hasB_cons, (inB_iff _ _ _).2 ⟨Int.le_refl _, (goodS_cons.1 hm).1.2.1⟩] at this
      cases this
  | cons s r ih =>
    intro m hl hm h
    cases m with
    | nil =>
      have := h s.1
      rw [hasB_nil, hasB_cons, (inB_iff _ _ _).2 ⟨Int.le_refl _, (goodS_cons.1 hl).1.2.1⟩] at this
      cases this
    | cons s' r' =>
      have il : ∀ t, hasB (s :: r) t = true ↔ (s.1 ≤ t ∧ t ≤ s.2) ∨ hasB r t = true := fun t => by rw [hasB_cons, Bool.or_eq_true, inB_iff]
      have im : ∀ t, hasB (s' :: r') t = true ↔ (s'.1 ≤ t ∧ t ≤ s'.2) ∨ hasB r' t = true := fun t => by rw [hasB_cons, Bool.or_eq_true, inB_iff]
      have e : ∀ t, ((s.1 ≤ t ∧ t ≤ s.2) ∨ hasB r t = true) ↔ ((s'.1 ≤ t ∧ t ≤ s'.2) ∨ hasB r' t = true) := fun t => by rw [← il, ← im, h t]
      have al : ∀ t, hasB r t = true → s.2 + 1 < t := fun t ht => goodS_above hl ht
      have am : ∀ t, hasB r' t = true → s'.2 + 1 < t := fun t ht => goodS_above hm ht
      have gl := (goodS_cons.1 hl).1
      have gm := (goodS_cons.1 hm).1
      have e1 : s.1 = s'.1 := by
        rcases (e s.1).1 (.inl (by omega)) with h1 | h1
        · rcases (e s'.1).2 (.inl (by omega)) with h2 | h2
          · omega
          · have := al _ h2; omega
        · have := am _ h1
          rcases (e s'.1).2 (.inl (by omega)) with h2 | h2
          · omega
          · have := al _ h2; omega
      have e2 : s.2 = s'.2 := by
        rcases Int.lt_trichotomy s.2 s'.2 with hlt | he | hgt
        · rcases (e (s.2 + 1)).2 (.inl (by omega)) with h2 | h2
          · omega
          · have := al _ h2; omega
        · exact he
        · rcases (e (s'.2 + 1)).1 (.inl (by omega)) with h2 | h2
          · omega
          · have := am _ h2; omega
      have es : s = s' := by cases s; cases s'; simp only at e1 e2; rw [e1, e2]
      subst es
      have er : r = r' := ih (goodS_cons.1 hl).2.2 (goodS_cons.1 hm).2.2 fun t => by
        rw [Bool.eq_iff_iff]
        constructor
        · intro ht
          have h1 := al t ht
          rcases (e t).1 (.inr ht) with h2 | h2
          · omega
          · exact h2
        · intro ht
          have h1 := am t ht
          rcases (e t).2 (.inr ht) with h2 | h2
          · omega
          · exact h2
      rw [er]
theorem wrap_pred {a b : Int} (ha : 0 ≤ a) (ha' : a < 18446744073709551616) (hb : ¬ a ≤ b) (hb0 : 0 ≤ b) : IntKind.u64.wrap (a - 1) = b ↔ a = b + 1 := by
  show (a - 1) % 18446744073709551616 = b ↔ a = b + 1
  omega
theorem stepF_good {out : List (Int × Int)} {s : Int × Int} (hg : goodS out) (hs : 0 ≤ s.1 ∧ s.1 ≤ s.2 ∧ s.2 < 18446744073709551616) (hle : ∀ x ∈ out, x.1 ≤ s.1) :
    goodS (stepF out s) ∧ (∀ x ∈ stepF out s, x.1 ≤ s.1) ∧ ∀ t, hasB (stepF out s) t = (hasB out t || inB s.1 s.2 t) := by
  unfold stepF
  cases hl : out.getLast? with
  | none =>
    have : out = [] := List.getLast?_eq_none_iff.1 hl
    subst this
    exact ⟨goodS_cons.2 ⟨hs, by simp, goodS_nil⟩, by simp, fun t => by simp [hasB]⟩
  | some t =>
    obtain ⟨pre, rfl⟩ := List.getLast?_eq_some_iff.1 hl
    have hset : ∀ x, (pre ++ [t]).set ((pre ++ [t]).length - 1) x = pre ++ [x] := by
      intro x
      rw [List.length_append, List.length_singleton, Nat.add_sub_cancel, List.set_append_right _ _ (Nat.le_refl _), Nat.sub_self]
      rfl
    obtain ⟨g1, g2, g3⟩ := goodS_snoc.1 hg
    have ht := hle t (by simp)
    simp only
    split
    · rename_i hc
      have hto : s.1 ≤ t.2 + 1 := by
        by_cases h1 : s.1 ≤ t.2
        · omega
        · rcases hc with hc | hc
          · omega
          · rw [wrap_pred hs.1 (by omega) h1 (by omega)] at hc; omega
      rw [hset]
      refine ⟨goodS_snoc.2 ⟨g1, g2, by simp only; omega⟩, ?_, ?_⟩
      · intro x hx
        rcases List.mem_append.1 hx with hx | hx
        · exact hle x (List.mem_append_left _ hx)
        · obtain rfl : x = _ := by simpa using hx
          exact ht
      · intro k
        rw [hasB_append, hasB_append, hasB_one, hasB_one, Bool.or_assoc]
        congr 1
        rw [Bool.eq_iff_iff, Bool.or_eq_true, inB_iff, inB_iff, inB_iff]
        simp only
        omega
    · rename_i hc
      have h1 : ¬ s.1 ≤ t.2 := fun h => hc (.inl h)
      have h2 : ¬ s.1 = t.2 + 1 := fun h => hc (.inr ((wrap_pred hs.1 (by omega) h1 (by omega)).2 h))
      refine ⟨goodS_snoc.2 ⟨hg, ?_, hs⟩, ?_, ?_⟩
      · intro x hx
        rcases List.mem_append.1 hx with hx | hx
        · have := g2 x hx; omega
        · obtain rfl : x = t := by simpa using hx
          omega
      · intro x hx
        rcases List.mem_append.1 hx with hx | hx
        · exact hle x hx
        · obtain rfl : x = s := by simpa using hx
          exact Int.le_refl _
      · intro k
        rw [hasB_append, hasB_one]
theorem foldl_good (ys : List (Int × Int)) : ∀ out : List (Int × Int), goodS out → (∀ s ∈ ys, 0 ≤ s.1 ∧ s.1 ≤ s.2 ∧ s.2 < 18446744073709551616) → ys.Pairwise (fun a b => a.1 ≤ b.1) → (∀ x ∈ out, ∀ s ∈ ys, x.1 ≤ s.1) →
    goodS (ys.foldl stepF out) ∧ ∀ t, hasB (ys.foldl stepF out) t = (hasB out t || hasB ys t) := by
  induction ys with
  | nil => intro out hg _ _ _; exact ⟨hg, fun t => by simp [hasB_nil]⟩
  | cons s ys ih =>
    intro out hg hs hp hle
    obtain ⟨h1, h2, h3⟩ := stepF_good hg (hs s List.mem_cons_self) (fun x hx => hle x hx s List.mem_cons_self)
    rw [List.pairwise_cons] at hp
    obtain ⟨h4, h5⟩ := ih (stepF out s) h1 (fun x hx => hs x (List.mem_cons_of_mem _ hx)) hp.2 (fun x hx y hy => by have := h2 x hx; have := hp.1 y hy; omega)
    refine ⟨h4, fun t => ?_⟩
    rw [List.foldl_cons, h5, h3, hasB_cons, Bool.or_assoc]
/-- What spans.Of makes of any spans is a set with their times. -/
theorem merge_good {xs ys : List (Int × Int)} (hu : ∀ s ∈ xs, U64 s.1 ∧ U64 s.2) (hp : ys.Perm (delF xs)) (hs : ys.Pairwise (fun a b => a.1 ≤ b.1)) :
    goodS (mergeF ys) ∧ ∀ t, hasB (mergeF ys) t = hasB xs t := by
  obtain ⟨h1, h2⟩ := foldl_good ys [] goodS_nil (fun s h => by
    have h3 := hp.mem_iff.1 h
    unfold delF at h3
    rw [List.mem_filter] at h3
    have h4 := hu s h3.1
    have h5 : s.1 ≤ s.2 := by simpa using h3.2
    unfold U64 at h4
    omega) hs (by simp)
  exact ⟨h1, fun t => by
    unfold mergeF
    rw [h2, hasB_nil, Bool.false_or, hasB_perm hp, hasB_delF]⟩
theorem goodS_u64 {l : List (Int × Int)} (h : goodS l) : ∀ s ∈ l, U64 s.1 ∧ U64 s.2 := fun s hs => by
  have := h.1 s hs
  unfold U64
  omega
end Go.Proofs.YtfccoiofpmhbdaaDoor
