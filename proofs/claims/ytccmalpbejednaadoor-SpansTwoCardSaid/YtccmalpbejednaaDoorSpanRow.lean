/- Rows of spans as calls read them, and what spans.Of answers in the words of sets. Condition: no more than 1000000000 spans. -/
import Derived.Test.YtccmalpbejednaaDoorSpans4
namespace Go.Proofs.YtccmalpbejednaaDoor
open Go Go.Proofs Go.RowKit

/-- The slice at A of n spans reads as xs; it lies below block B. -/
def SpanRow (w : World) (B : Nat) (A : Option Addr) (n : Nat) (xs : List (Int × Int)) : Prop :=
  xs.length = n ∧ ((A = none ∧ xs = []) ∨ ∃ b off, A = some ⟨b, off, none⟩ ∧ b < B ∧ ∀ j s, xs[j]? = some s → w.cell? ⟨b, off + j * 2, none⟩ = some (.int .u64 s.1) ∧ w.cell? ⟨b, off + j * 2 + 1, none⟩ = some (.int .u64 s.2))
section
variable {w w' : World} {B B' n : Nat} {A : Option Addr} {xs : List (Int × Int)}
theorem SpanRow.len (h : SpanRow w B A n xs) : xs.length = n := h.1
theorem SpanRow.below (h : SpanRow w B A n xs) (hb : Below B' w w') (hB : B ≤ B') : SpanRow w' B A n xs := by
  refine ⟨h.1, ?_⟩
  rcases h.2 with h2 | ⟨b, off, rfl, hlt, hc⟩
  · exact .inl h2
  · refine .inr ⟨b, off, rfl, hlt, fun j s hj => ?_⟩
    obtain ⟨h1, h2⟩ := hc j s hj
    exact ⟨cellk hb (p := ⟨b, off + j * 2, none⟩) (Nat.lt_of_lt_of_le hlt hB) h1, cellk hb (p := ⟨b, off + j * 2 + 1, none⟩) (Nat.lt_of_lt_of_le hlt hB) h2⟩
theorem SpanRow.more (h : SpanRow w B A n xs) (hB : B ≤ B') : SpanRow w B' A n xs := by
  refine ⟨h.1, ?_⟩
  rcases h.2 with h2 | ⟨b, off, rfl, hlt, hc⟩
  · exact .inl h2
  · exact .inr ⟨b, off, rfl, Nat.lt_of_lt_of_le hlt hB, hc⟩
theorem SpanRow.of_owns {base : Nat} {v : Value} (h : w.ownsRow base 31 2 v n (flatS xs)) : ∃ A c, v = .slice A n c ∧ n ≤ c ∧ SpanRow w w.heap.size A n xs := by
  have hl : xs.length = n := by
    have := h.1
    rw [flatS_length] at this
    omega
  rcases owns_form2 h with ⟨rfl, rfl⟩ | ⟨g, cap, rfl, hg, hgl, hnc⟩
  · exact ⟨_, _, rfl, Nat.le_refl _, hl, .inl ⟨rfl, List.length_eq_zero_iff.1 hl⟩⟩
  · refine ⟨_, _, rfl, hnc, hl, .inr ⟨g, 0, rfl, hgl, fun j s hj => ?_⟩⟩
    rw [Nat.zero_add]
    exact cells_of h j s hj
theorem SpanRow.weak (h : SpanRow w B A n xs) : (A = none ∧ xs = []) ∨ ∃ b off, A = some ⟨b, off, none⟩ ∧ ∀ j s, xs[j]? = some s → w.cell? ⟨b, off + j * 2, none⟩ = some (.int .u64 s.1) ∧ w.cell? ⟨b, off + j * 2 + 1, none⟩ = some (.int .u64 s.2) := by
  rcases h.2 with h2 | ⟨b, off, rfl, hlt, hc⟩
  · exact .inl h2
  · exact .inr ⟨b, off, rfl, hc⟩
theorem SpanRow.at_ (h : SpanRow w B A n xs) {k : Nat} {s : Int × Int} (hk : xs[k]? = some s) : ∃ b off, A = some ⟨b, off, none⟩ ∧ b < B ∧ w.cell? ⟨b, off + k * 2, none⟩ = some (.int .u64 s.1) ∧ w.cell? ⟨b, off + k * 2 + 1, none⟩ = some (.int .u64 s.2) := by
  rcases h.2 with ⟨_, rfl⟩ | ⟨b, off, rfl, hlt, hc⟩
  · simp at hk
  · exact ⟨b, off, rfl, hlt, hc k s hk⟩
end
/-- A row of spans is answered, of which Q; what was there stays. -/
def RetRow (w : World) (Q : List (Int × Int) → Prop) (e : Ending) (w' : World) : Prop :=
  ∃ A n c xs, e = .returned (.slice A n c) ∧ n ≤ c ∧ SpanRow w' w'.heap.size A n xs ∧ Q xs ∧ Below w.heap.size w w'
/-- A set with the times that f tells. -/
def SetOf (f : Int → Bool) (N : Nat) (xs : List (Int × Int)) : Prop := goodS xs ∧ (∀ t, hasB xs t = f t) ∧ xs.length ≤ N
def AllU (xs : List (Int × Int)) : Prop := ∀ s ∈ xs, U64 s.1 ∧ U64 s.2
theorem SetOf.u {f : Int → Bool} {N : Nat} {xs : List (Int × Int)} (h : SetOf f N xs) : AllU xs := goodS_u64 h.1
theorem of_set (A : Option Addr) (n c B : Nat) (xs : List (Int × Int)) (w : World) (hr : SpanRow w B A n xs) (hn : n ≤ 1000000000) (hu : AllU xs) :
    Calls Tryd.prog 15 #[.slice A n c] w (RetRow w (SetOf (hasB xs) n)) := by
  refine (ofAny A n c xs w hr.len hn hr.weak).mono ?_
  rintro e w' ⟨v', ys, rfl, hp, hs, hown, hb⟩
  obtain ⟨h1, h2⟩ := merge_good hu hp hs
  obtain ⟨A', c', rfl, hnc, hrow⟩ := SpanRow.of_owns hown
  refine ⟨_, _, _, mergeF ys, rfl, hnc, hrow, ⟨h1, h2, ?_⟩, hb⟩
  have h3 := mergeF_length ys ys.length
  rw [List.take_of_length_le (Nat.le_refl _), hp.length_eq] at h3
  have h4 : (delF xs).length ≤ xs.length := List.length_filter_le _ _
  have := hr.len
  omega
end Go.Proofs.YtccmalpbejednaaDoor
