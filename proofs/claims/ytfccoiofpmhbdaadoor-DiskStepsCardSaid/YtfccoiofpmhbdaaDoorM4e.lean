/- selionlaw04.M.Do: any step, on a disk and on the law's own; whether it took a step. Condition: both are as told. -/
import Derived.Test.YtfccoiofpmhbdaaDoorM4b2
import Derived.Test.YtfccoiofpmhbdaaDoorM4d
namespace Go.Proofs.YtfccoiofpmhbdaaDoor
open Go Go.Proofs Go.RowKit

/-- Does it take a step? -/
def stepB (dO : Nat) (x : Option (List UInt8 × Nat)) (ns : Nat) (nn room : Int) (t : Nat) : Bool :=
  if dO % 8 < 3 then decide ((t : Int) + ns ≤ room) else if dO % 8 ≤ 5 then x.isSome else if dO % 8 = 6 then (match x with | some y => decide (0 ≤ nn ∧ nn ≤ (y.1.length : Int)) | none => false) else false
theorem doAll (B B' nb a pw t N mp mb dO A8 B8 bits ns cs : Nat) (As : Option Addr) (C D : Nat → Prop) (l u room nn : Int) (F : Files) (ds : List UInt8) (w : World) (h : Both B w C D nb N a pw mp mb l u room F t) (hn : NamesLaid w B') (hB' : B' ≤ w.heap.size) (hd8 : dO < 256) (hA8 : A8 < 256) (hB8 : B8 < 256) (hnb : nb < 1000000) (hN : N < 1000000)
    (hl : l < 0 ∨ u < l) (hn0 : -128 ≤ nn) (hn1 : nn ≤ 127) (hrd : Reads w B' 1 As ns (bv ds)) (hBB : B' ≤ B) (hns : ns ≤ 1000) (hbits : bits < 2 ^ 64) :
    Calls Tryd.prog 7 #[.pointer (some ⟨mp, 0, none⟩), .pointer (some ⟨a, 0, none⟩), stepV dO A8 B8 (.slice As ns cs) nn bits] w
      (RetB w B C D (nb + 1) (N + 1) a pw mp mb l (if stepB dO (F (nameAt A8)) ns nn room t then u + 1 else u) room) := by
  have htm : t ≤ 1000000 := by have := h.ds.t1; have := h.ds.r1; omega
  have hlen : ∀ bs kept, F (nameAt A8) = some (bs, kept) → bs.length ≤ 1000000 := fun bs kept hF => by
    have := h.ds.tot.one (nameAt A8)
    have h2 : lenF F (nameAt A8) = bs.length := by simp [lenF, hF]
    omega
  have hv : dO % 8 < 8 := Nat.mod_lt _ (by omega)
  obtain ⟨v, hve⟩ : ∃ v, v = dO % 8 := ⟨_, rfl⟩
  unfold stepB
  rw [← hve] at hv ⊢
  by_cases h3 : v < 3
  · rw [if_pos h3]
    cases hF : F (nameAt A8) with
    | none =>
      by_cases hr : (t : Int) + ns ≤ room
      · rw [if_pos (decide_eq_true hr)]
        apply doAppN (h := h) (hn := hn) (hdo := hve.symm) (ds := ds) (hrd := hrd) <;> first | assumption | omega
      · rw [if_neg (by simpa using hr)]
        apply doAppNX (h := h) (hn := hn) (hdo := hve.symm) <;> first | assumption | omega
    | some x =>
      obtain ⟨bs, kept⟩ := x
      have hsm := hlen bs kept hF
      by_cases hr : (t : Int) + ns ≤ room
      · rw [if_pos (decide_eq_true hr)]
        apply doApp (h := h) (hn := hn) (hdo := hve.symm) (hF := hF) (hrd := hrd) (ds := ds) <;> first | assumption | omega
      · rw [if_neg (by simpa using hr)]
        apply doAppX (h := h) (hn := hn) (hdo := hve.symm) (hF := hF) <;> first | assumption | omega
  · rw [if_neg h3]
    have hc : v = 3 ∨ v = 4 ∨ v = 5 ∨ v = 6 ∨ v = 7 := by omega
    cases hF : F (nameAt A8) with
    | none =>
      rcases hc with rfl | rfl | rfl | rfl | rfl
      · apply doSyncN (h := h) (hn := hn) (hF := hF) <;> first | assumption | omega
      · apply doMoveN (h := h) (hn := hn) (hF := hF) <;> first | assumption | omega
      · apply doRemoveN (h := h) (hn := hn) (hF := hF) <;> first | assumption | omega
      · apply doCutN (h := h) (hn := hn) (hF := hF) <;> first | assumption | omega
      · apply doCrash (h := h) (hn := hn) <;> first | assumption | omega
    | some x =>
      obtain ⟨bs, kept⟩ := x
      have hsm := hlen bs kept hF
      rcases hc with rfl | rfl | rfl | rfl | rfl
      · apply doSync (h := h) (hn := hn) (hF := hF) <;> first | assumption | omega
      · apply doMove (h := h) (hn := hn) (hF := hF) <;> first | assumption | omega
      · apply doRemove (h := h) (hn := hn) (hF := hF) <;> first | assumption | omega
      · by_cases hr : 0 ≤ nn ∧ nn ≤ (bs.length : Int)
        · obtain ⟨m, rfl⟩ := Int.eq_ofNat_of_zero_le hr.1
          simp only [show ¬ (6 : Nat) ≤ 5 from by decide, if_false, if_true, decide_eq_true hr]
          apply doCut (h := h) (hn := hn) (hF := hF) <;> first | assumption | omega
        · simp only [show ¬ (6 : Nat) ≤ 5 from by decide, if_false, if_true, decide_eq_false hr, Bool.false_eq_true]
          apply doCutR (h := h) (hn := hn) (hF := hF) <;> first | assumption | omega
      · apply doCrash (h := h) (hn := hn) <;> first | assumption | omega
end Go.Proofs.YtfccoiofpmhbdaaDoor
