/- Words on memory that the other texts share. No condition. -/
import Derived.Test.YtfccoiofpmhbdaaDoorProg
import Derived.Test.YtfccoiofpmhbdaaDoorWords
import Derived.WalkKit
import Derived.KernelRfl
import Derived.Lib.Hide
import Derived.Lib.MinMax
import Derived.Deep.Draws
import Derived.Deep.RegionWith
import Derived.Deep.QuietTactic
import Derived.BigQuiet
import Derived.Deep.RegionHeld3
import Derived.Deep.LoopGhost
import Derived.Deep.RegionLaw
import Derived.Deep.AppendLies
import Derived.Laws.OwnMore
import Derived.Maps.AppendAt
import Derived.Deep.DeepCutAuto
import Derived.WalkLawsBesides
import Derived.WalkSpells
import Derived.Handy
namespace Go.Proofs.YtfccoiofpmhbdaaDoor
open Go Go.Proofs Go.RowKit

theorem bcell {W w1 : World} (hb : Below W.heap.size W w1) : (∀ b o, b < W.heap.size → w1.cell? ⟨b, o, none⟩ = W.cell? ⟨b, o, none⟩) ∧ (∀ b o, b < W.heap.size → w1.frozen? ⟨b, o, none⟩ = W.frozen? ⟨b, o, none⟩) :=
  ⟨fun b o h => hb.cell (p := ⟨b, o, none⟩) h, fun b o h => hb.frozen (p := ⟨b, o, none⟩) h⟩
theorem bstep {B : Nat} {a b c : World} (h : Below B a b) {B' : Nat} (k : Below B' b c) (hB : B ≤ B') : Below B a c := h.trans (k.mono hB)
theorem bundrew {w w' : World} (h : Below w.drew.heap.size w.drew w') : Below w.heap.size w w' := ⟨h.os, h.tape, h.output, h.size, h.block⟩
theorem bdrewN {B : Nat} {a w : World} (h : Below B a w) (n : Nat) : Below B a (w.drewN n) := ⟨h.os, h.tape, h.output, h.size, h.block⟩

theorem cellk {B : Nat} {W w1 : World} (hb : Below B W w1) {p : Addr} {v : Value} (hlt : p.block < B) (h : W.cell? p = some v) : w1.cell? p = some v := (hb.cell hlt).trans h
theorem frzk {B : Nat} {W w1 : World} (hb : Below B W w1) {p : Addr} (hlt : p.block < B) (h : W.frozen? p = false) : w1.frozen? p = false := (hb.frozen hlt).trans h
theorem calloc {w : World} {q : Addr} {v : Value} (h : w.cell? q = some v) (o : Obj) : (w.alloc o).cell? q = some v :=
  (World.cell?_alloc_lt w o q (World.block_lt_of_cell? w q h)).trans h
theorem falloc {w : World} {q : Addr} (hq : q.block < w.heap.size) (h : w.frozen? q = false) (o : Obj) : (w.alloc o).frozen? q = false :=
  (World.frozen?_of_block (w := w) (Below.heap_alloc w o q.block hq)).trans h
theorem cset {w : World} {p q : Addr} {u v : Value} (h : w.cell? q = some v) (hne : q.block ≠ p.block) : (w.setCell p u).cell? q = some v :=
  (World.cell?_setCell_other w p q u (fun e => hne (by rw [e]))).trans h
theorem owns_form {w : World} {base e size n : Nat} {v : Value} {xs : List Value} (h : w.ownsRow base e size v n xs) : ∃ A c, v = .slice A n c ∧ n ≤ c := by
  rcases h.2 with ⟨rfl, rfl⟩ | ⟨g, cap, cur, rfl, _, _, hc, _⟩
  · exact ⟨_, _, rfl, Nat.le_refl _⟩
  · exact ⟨_, _, rfl, hc⟩
theorem owns_at {w : World} {base e n c : Nat} {A : Option Addr} {xs : List Value} (h : w.ownsRow base e 1 (.slice A n c) n xs) (hn : 0 < n) :
    ∃ g, A = some ⟨g, 0, none⟩ ∧ base ≤ g ∧ g < w.heap.size ∧ ∀ k u, xs[k]? = some u → w.cell? ⟨g, k, none⟩ = some u := by
  obtain ⟨g, cap, hv, hb, hlt⟩ := h.form hn
  have hA : A = some ⟨g, 0, none⟩ := by injection hv
  subst hA
  refine ⟨g, rfl, hb, hlt, fun k u hu => ?_⟩
  have h1 := h.cells (g := g) rfl k u hu
  have hadd : (⟨g, 0, none⟩ : Addr).add k = ⟨g, k, none⟩ := by unfold Addr.add; split <;> simp_all
  rwa [hadd] at h1
theorem owns_new {w : World} {o : Array Value} {e n g : Nat} (hg : w.heap[g]? = some (.cells o e (0, 0))) (hn : n ≤ maxLen) (hs : o.size = n) {base : Nat} (hb : base ≤ g) :
    w.ownsRow base e 1 (.slice (some ⟨g, 0, none⟩) n n) n o.toList :=
  ⟨by simp [hs], .inr ⟨g, n, o, rfl, hb, hg, Nat.le_refl _, hn, by simp [hs], List.take_of_length_le (by simp [hs])⟩⟩
theorem heap_new_at {w : World} {o : Obj} {n : Nat} (h : w.heap.size = n) : (w.alloc o).heap[n]? = some o := by
  subst h
  exact heap_alloc_new w o
theorem owns_lower {w : World} {base base' e size n : Nat} {v : Value} {xs : List Value} (h : w.ownsRow base e size v n xs) (hb : base' ≤ base) : w.ownsRow base' e size v n xs := by
  refine ⟨h.1, ?_⟩
  rcases h.2 with h2 | ⟨g, cap, cur, hv, hg, r⟩
  · exact .inl h2
  · exact .inr ⟨g, cap, cur, hv, Nat.le_trans hb hg, r⟩
theorem u64_wrap_range (z : Int) : 0 ≤ IntKind.u64.wrap z ∧ IntKind.u64.wrap z < 18446744073709551616 := by
  show 0 ≤ z % 18446744073709551616 ∧ z % 18446744073709551616 < 18446744073709551616
  omega
def flatS (xs : List (Int × Int)) : List Value := xs.flatMap fun s => [.int .u64 s.1, .int .u64 s.2]
theorem flatS_get (xs : List (Int × Int)) : ∀ j s, xs[j]? = some s → (flatS xs)[j * 2]? = some (.int .u64 s.1) ∧ (flatS xs)[j * 2 + 1]? = some (.int .u64 s.2) := by
  induction xs with
  | nil => intro j s h; simp at h
  | cons x r ih =>
    intro j s h
    cases j with
    | zero => simp at h; subst h; exact ⟨rfl, rfl⟩
    | succ j =>
      have h' : r[j]? = some s := by simpa using h
      obtain ⟨h1, h2⟩ := ih j s h'
      have e : flatS (x :: r) = .int .u64 x.1 :: .int .u64 x.2 :: flatS r := rfl
      rw [e, show (j + 1) * 2 = j * 2 + 1 + 1 by omega]
      exact ⟨by simpa using h1, by simpa using h2⟩
theorem flat_cells {w : World} {g t : Nat} {fr : Nat × Nat} {xs : List (Int × Int)} (h : w.heap[g]? = some (.cells (flatS xs).toArray t fr)) :
    ∀ j s, xs[j]? = some s → w.cell? ⟨g, j * 2, none⟩ = some (.int .u64 s.1) ∧ w.cell? ⟨g, j * 2 + 1, none⟩ = some (.int .u64 s.2) := by
  intro j s hj
  obtain ⟨h1, h2⟩ := flatS_get xs j s hj
  rw [cell_of_row w g (j * 2) _ t fr h, cell_of_row w g (j * 2 + 1) _ t fr h]
  exact ⟨by simpa using h1, by simpa using h2⟩
theorem heap_ne {w : World} (h : 0 < w.heap.size) : ¬ w.heap = #[] := by
  intro e
  rw [e] at h
  simp at h

/-- The package's variable 'none' holds what its text lays. -/
structure NoneLaid (w : World) : Prop where
  lo : w.cell? ⟨1, 0, none⟩ = some (.int .u64 1)
  hi : w.cell? ⟨1, 1, none⟩ = some (.int .u64 0)

theorem NoneLaid.lt {w : World} (h : NoneLaid w) : 1 < w.heap.size := World.block_lt_of_cell? w _ h.lo
theorem NoneLaid.below {w w' : World} {B : Nat} (h : NoneLaid w) (hb : Below B w w') (hB : 1 < B) : NoneLaid w' :=
  ⟨(hb.cell (p := ⟨1, 0, none⟩) hB).trans h.lo, (hb.cell (p := ⟨1, 1, none⟩) hB).trans h.hi⟩
theorem NoneLaid.next {w w' : World} (h : NoneLaid w) (hb : Below w.heap.size w w') : NoneLaid w' := h.below hb h.lt
theorem NoneLaid.alloc {w : World} (h : NoneLaid w) (o : Obj) : NoneLaid (w.alloc o) := h.next ((Below.refl _ _).alloc (Nat.le_refl _) o)
theorem NoneLaid.drew {w : World} (h : NoneLaid w) : NoneLaid w.drew := ⟨h.lo, h.hi⟩
end Go.Proofs.YtfccoiofpmhbdaaDoor
