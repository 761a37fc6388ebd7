/- Closures that tick a power some times, and Run over them. No condition. -/
import Derived.Test.YtfccoiofpmhbdaaDoorPower
namespace Go.Proofs.YtfccoiofpmhbdaaDoor
open Go Go.Proofs Go.RowKit

/-- A power's two numbers, at a block. -/
structure PowAt (w : World) (P : Nat) (l u : Int) : Prop where
  h0 : w.cell? ⟨P, 0, none⟩ = some (.int .i64 l)
  h1 : w.cell? ⟨P, 1, none⟩ = some (.int .i64 u)
  hf : w.frozen? ⟨P, 1, none⟩ = false
theorem PowAt.lt {w : World} {P : Nat} {l u : Int} (h : PowAt w P l u) : P < w.heap.size := World.block_lt_of_cell? _ _ h.h0
/-- Of the first B blocks, none but perhaps P has changed. -/
structure OnlyP (B P : Nat) (w w' : World) : Prop where
  os : w'.os = w.os
  tape : w'.tape = w.tape
  output : w'.output = w.output
  size : w.heap.size ≤ w'.heap.size
  block : ∀ k, k < B → k ≠ P → w'.heap[k]? = w.heap[k]?
theorem OnlyP.refl (B P : Nat) (w : World) : OnlyP B P w w := ⟨rfl, rfl, rfl, Nat.le_refl _, fun _ _ _ => rfl⟩
theorem OnlyP.trans {B P : Nat} {a b c : World} (h : OnlyP B P a b) (k : OnlyP B P b c) : OnlyP B P a c :=
  ⟨k.os.trans h.os, k.tape.trans h.tape, k.output.trans h.output, Nat.le_trans h.size k.size, fun i hi hp => (k.block i hi hp).trans (h.block i hi hp)⟩
theorem OnlyP.mono {B B' P : Nat} {a b : World} (h : OnlyP B P a b) (hB : B' ≤ B) : OnlyP B' P a b := ⟨h.os, h.tape, h.output, h.size, fun i hi hp => h.block i (by omega) hp⟩
theorem OnlyP.of {B P : Nat} {a b : World} (h : Below B a b) : OnlyP B P a b := ⟨h.os, h.tape, h.output, h.size, fun i hi _ => h.block i hi⟩
theorem OnlyP.below {B P : Nat} {a b : World} (h : OnlyP B P a b) (hP : B ≤ P) : Below B a b := ⟨h.os, h.tape, h.output, h.size, fun i hi => h.block i hi (by omega)⟩
theorem OnlyP.cell {B P : Nat} {a b : World} (h : OnlyP B P a b) {p : Addr} {v : Value} (h1 : p.block < B) (h2 : p.block ≠ P) (hc : a.cell? p = some v) : b.cell? p = some v := by
  rw [← hc]
  unfold World.cell?
  rw [h.block _ h1 h2]
theorem OnlyP.frz {B P : Nat} {a b : World} (h : OnlyP B P a b) {p : Addr} (h1 : p.block < B) (h2 : p.block ≠ P) (hc : a.frozen? p = false) : b.frozen? p = false := by
  rw [← hc]
  unfold World.frozen?
  rw [h.block _ h1 h2]
theorem OnlyP.pow {B P Q : Nat} {a b : World} {l u : Int} (h : OnlyP B P a b) (hq : PowAt a Q l u) (h1 : Q < B) (h2 : Q ≠ P) : PowAt b Q l u :=
  ⟨h.cell (p := ⟨Q, 0, none⟩) h1 h2 hq.h0, h.cell (p := ⟨Q, 1, none⟩) h1 h2 hq.h1, h.frz (p := ⟨Q, 1, none⟩) h1 h2 hq.hf⟩
theorem OnlyP.setCell {B P : Nat} {a b : World} (h : OnlyP B P a b) {p : Addr} (v : Value) (hp : B ≤ p.block ∨ p.block = P) : OnlyP B P a (b.setCell p v) := by
  refine ⟨h.os, h.tape, h.output, by simpa using h.size, fun k hk hkp => ?_⟩
  rw [heap_setCell_other b p k v (by omega)]
  exact h.block k hk hkp
theorem OnlyP.alloc {B P : Nat} {a b : World} (h : OnlyP B P a b) (hB : B ≤ b.heap.size) (o : Obj) : OnlyP B P a (b.alloc o) := h.trans (.of ((Below.refl _ _).alloc hB o))
theorem PowAt.below {w w' : World} {P B : Nat} {l u : Int} (h : PowAt w P l u) (hb : Below B w w') (hB : P < B) : PowAt w' P l u :=
  ⟨cellk hb (p := ⟨P, 0, none⟩) hB h.h0, cellk hb (p := ⟨P, 1, none⟩) hB h.h1, frzk hb (p := ⟨P, 1, none⟩) hB h.hf⟩
theorem tickOn (P : Nat) (l u : Int) (w : World) (hp : PowAt w P l u) (hu0 : 0 ≤ u) (hu1 : u < 9223372036854775807) (hl : l < 0 ∨ u < l) :
    Calls Tryd.prog 37 #[.pointer (some ⟨P, 0, none⟩)] w fun e w' => e = .returned (.tuple #[]) ∧ PowAt w' P l (u + 1) ∧ OnlyP w.heap.size P w w' := by
  refine (tick_on P l u w hp.h0 hp.h1 hp.hf hu0 hu1 hl).mono ?_
  rintro e w' ⟨rfl, n, rfl⟩
  have h0 := hp.h0
  have h1 := hp.h1
  have h2 := hp.hf
  refine ⟨rfl, ⟨?_, ?_, ?_⟩, (OnlyP.of (bdrewN (Below.refl _ _) n)).setCell (p := ⟨P, 1, none⟩) _ (.inr rfl)⟩ <;> go_simp
theorem tickOff (P : Nat) (l u : Int) (w : World) (hp : PowAt w P l u) (hl : 0 ≤ l) (hu : l ≤ u) :
    Calls Tryd.prog 37 #[.pointer (some ⟨P, 0, none⟩)] w fun e w' => e = .panicked [{ v := offV, recovered := false }] ∧ PowAt w' P l u ∧ OnlyP w.heap.size P w w' := by
  refine (tick_off P l u w hp.h0 hp.h1 hl hu).mono ?_
  rintro e w' ⟨rfl, n, rfl⟩
  exact ⟨rfl, ⟨hp.h0, hp.h1, hp.hf⟩, .of (bdrewN (Below.refl _ _) n)⟩
/-- Do n more steps fit? -/
def fitB (l u : Int) (n : Nat) : Bool := decide (l < 0 ∨ u + n ≤ l)
/-- How many are done then. -/
def useF (l u : Int) (n : Nat) : Int := if fitB l u n then u + n else l
/-- What a thing that ticks n times does. -/
def Ticked (l u : Int) (n P : Nat) (w : World) (e : Ending) (w' : World) : Prop :=
  e = (if fitB l u n then .returned (.tuple #[]) else .panicked [{ v := offV, recovered := false }]) ∧ PowAt w' P l (useF l u n) ∧ OnlyP w.heap.size P w w'
/-- Run over a thing that ticks n times. -/
theorem runTicks (G : Nat) (first cap : Array Value) (l u : Int) (n P : Nat) (w : World) (hP : P < w.heap.size) (eg : ∀ args w, (callFunc G args).run Tryd.prog w = .ok (.enter G args) w)
    (hf : Calls Tryd.prog G (first ++ cap) (w.alloc (.cells #[.bool false] 4)) (Ticked l u n P (w.alloc (.cells #[.bool false] 4)))) :
    Calls Tryd.prog 13 #[.func (.func G) first cap] w fun e w' => e = .returned (.bool (fitB l u n)) ∧ PowAt w' P l (useF l u n) ∧ OnlyP w.heap.size P w w' := by
  have hne : w.heap.size ≠ P := by omega
  have hc0 : (w.alloc (.cells #[.bool false] 4)).cell? ⟨w.heap.size, 0, none⟩ = some (.bool false) := by simp
  have hz0 : (w.alloc (.cells #[.bool false] 4)).frozen? ⟨w.heap.size, 0, none⟩ = false := by simp
  have hA : OnlyP w.heap.size P w (w.alloc (.cells #[.bool false] 4)) := (OnlyP.refl _ _ _).alloc (Nat.le_refl _) _
  cases hb : fitB l u n
  · have h := run_off G first cap w (fun w2 => PowAt w2 P l (useF l u n) ∧ OnlyP (w.heap.size + 1) P (w.alloc (.cells #[.bool false] 4)) w2) eg (hf.mono fun e w2 h => by
      obtain ⟨rfl, h2, h3⟩ := h
      rw [hb]
      simp only [World.size_alloc] at h3
      exact ⟨rfl, h3.cell (p := ⟨w.heap.size, 0, none⟩) (by simp) hne hc0, h3.frz (p := ⟨w.heap.size, 0, none⟩) (by simp) hne hz0, h2, h3⟩)
    refine h.mono ?_
    rintro e w' ⟨rfl, w2, ⟨h2, h3⟩, rfl⟩
    have hs : w.heap.size < w2.heap.size := by have := h3.size; simp at this; omega
    refine ⟨rfl, ?_, ((hA.trans (h3.mono (by omega))).setCell (p := ⟨w.heap.size, 0, none⟩) _ (.inl (Nat.le_refl _))).alloc (by simp; omega) _⟩
    have h4 : PowAt (w2.setCell ⟨w.heap.size, 0, none⟩ (.bool false)) P l (useF l u n) := h2.below ((Below.refl (P + 1) w2).setCell (p := ⟨w.heap.size, 0, none⟩) (by show P + 1 ≤ w.heap.size; omega) _) (by omega)
    exact h4.below ((Below.refl (P + 1) _).alloc (by simp; omega) _) (by omega)
  · have h := run_on G first cap w (fun w2 => PowAt w2 P l (useF l u n) ∧ OnlyP (w.heap.size + 1) P (w.alloc (.cells #[.bool false] 4)) w2) eg (hf.mono fun e w2 h => by
      obtain ⟨rfl, h2, h3⟩ := h
      rw [hb]
      simp only [World.size_alloc] at h3
      exact ⟨rfl, h3.cell (p := ⟨w.heap.size, 0, none⟩) (by simp) hne hc0, h3.frz (p := ⟨w.heap.size, 0, none⟩) (by simp) hne hz0, h2, h3⟩)
    refine h.mono ?_
    rintro e w' ⟨rfl, w2, ⟨h2, h3⟩, rfl⟩
    refine ⟨rfl, ?_, ((hA.trans (h3.mono (by omega))).setCell (p := ⟨w.heap.size, 0, none⟩) _ (.inl (Nat.le_refl _)))⟩
    exact h2.below ((Below.refl (P + 1) w2).setCell (p := ⟨w.heap.size, 0, none⟩) (by show P + 1 ≤ w.heap.size; omega) _) (by omega)
end Go.Proofs.YtfccoiofpmhbdaaDoor
