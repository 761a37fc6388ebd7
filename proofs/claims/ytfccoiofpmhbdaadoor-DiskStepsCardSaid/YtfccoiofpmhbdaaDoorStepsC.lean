/- RunAny, M4h, M4i, in one text. The conditions stand at each theorem. -/
import Derived.Test.YtfccoiofpmhbdaaDoorDS
import Derived.Test.YtfccoiofpmhbdaaDoorM4g
namespace Go.Proofs.YtfccoiofpmhbdaaDoor
open Go Go.Proofs Go.RowKit

set_option maxRecDepth 100000 in
/-- Run, whether what is done comes back, or the power goes in it. -/
theorem run_any (G : Nat) (first cap : Array Value) (w : World) (R : Bool → World → Prop) (eg : ∀ args w, (callFunc G args).run Tryd.prog w = .ok (.enter G args) w)
    (hf : Calls Tryd.prog G (first ++ cap) (w.alloc (.cells #[.bool false] 4)) fun e w2 => ∃ b : Bool, e = (if b then .returned (.tuple #[]) else .panicked [{ v := offV, recovered := false }]) ∧ w2.cell? ⟨w.heap.size, 0, none⟩ = some (.bool false) ∧ w2.frozen? ⟨w.heap.size, 0, none⟩ = false ∧ R b w2) :
    Calls Tryd.prog 13 #[.func (.func G) first cap] w fun e w' => ∃ b : Bool, e = .returned (.bool b) ∧ ∃ w2, R b w2 ∧ Mod (fun g => g = w.heap.size) w2 w' := by
  have hmf : ∀ (fn : Fn) (first cap : Array Value) (w : World), (Instr.makeFunc fn first cap).run Tryd.prog w = .ok (.func fn first cap) w := fun _ _ _ _ => rfl
  go_enter_defers Tryd.func13, Tryd.ntmps13
  go_wp2_with (fail)
  refine hf.mono ?_
  rintro e w2 ⟨b, he, hc, hz, hR⟩
  cases b
  · rw [if_neg (by decide)] at he
    subst he
    go_wp2_with (fail)
    refine leaves_cons (f := 34) (args := #[.pointer (some ⟨w.heap.size, 0, none⟩)]) (by simp) (by simp [go_sem]) ?_
    have hlt := World.block_lt_of_cell? _ _ hc
    refine (catch_off w.heap.size _ [] w2 hlt hc hz).mono ?_
    rintro e u' w'' ⟨rfl, rfl, rfl⟩
    have hc' : ((w2.setCell ⟨w.heap.size, 0, none⟩ (.bool false)).alloc (.cells #[] 73)).cell? ⟨w.heap.size, 0, none⟩ = some (.bool false) := calloc (by go_simp) _
    simp [Leaves, settle, results, Tryd.results13, go_sem, hc']
    exact ⟨w2, hR, (Mod.setCell (F := fun g => g = w.heap.size) (Mod.refl _ w2) (fun _ => rfl) _).alloc _⟩
  · rw [if_pos rfl] at he
    subst he
    go_wp2_with (fail)
    refine leaves_cons (f := 34) (args := #[.pointer (some ⟨w.heap.size, 0, none⟩)]) (by simp) (by simp [go_sem]) ?_
    refine (catch_idle w.heap.size _).mono ?_
    rintro e u' w'' ⟨rfl, rfl, rfl⟩
    have hc' : (w2.setCell ⟨w.heap.size, 0, none⟩ (.bool true)).cell? ⟨w.heap.size, 0, none⟩ = some (.bool true) := by go_simp
    simp [Leaves, settle, results, Tryd.results13, go_sem, hc']
    exact ⟨w2, hR, Mod.setCell (F := fun g => g = w.heap.size) (Mod.refl _ w2) (fun _ => rfl) _⟩

set_option maxHeartbeats 2000000 in
set_option maxRecDepth 100000 in
theorem stepsOn (vm vd vs vr a mp : Nat) (w : World) (dO A8 B8 bits ns cs : Nat) (As : Option Addr) (nn : Int) (R : World → Prop) (hm : w.cell? ⟨vm, 0, none⟩ = some (.pointer (some ⟨mp, 0, none⟩))) (hd : w.cell? ⟨vd, 0, none⟩ = some (.pointer (some ⟨a, 0, none⟩)))
    (s0 : w.cell? ⟨vs, 0, none⟩ = some (.int .u8 dO)) (s1 : w.cell? ⟨vs, 1, none⟩ = some (.int .u8 A8)) (s2 : w.cell? ⟨vs, 2, none⟩ = some (.int .u8 B8)) (s3 : w.cell? ⟨vs, 3, none⟩ = some (.slice As ns cs)) (s4 : w.cell? ⟨vs, 4, none⟩ = some (.int .i8 nn)) (s5 : w.cell? ⟨vs, 5, none⟩ = some (.int .u64 bits)) (hvr : ∀ w', R w' → w'.heap[vr]? = some (.cells #[.bool true] 4 (0, 0))) (hdo : Calls Tryd.prog 7 #[.pointer (some ⟨mp, 0, none⟩), .pointer (some ⟨a, 0, none⟩), stepV dO A8 B8 (.slice As ns cs) nn bits] w (fun e w' => e = .returned (.bool true) ∧ R w')) :
    Calls Tryd.prog 14 #[.pointer (some ⟨vm, 0, none⟩), .pointer (some ⟨vd, 0, none⟩), .pointer (some ⟨vs, 0, none⟩), .pointer (some ⟨vr, 0, none⟩)] w (fun e w' => e = .returned (.tuple #[]) ∧ ∃ w1, R w1 ∧ w' = w1.setCell ⟨vr, 0, none⟩ (.bool true)) := by
  go_enter Tryd.func14, Tryd.ntmps14
  go_wp2_with (fail)
  refine hdo.mono ?_
  rintro e w1 ⟨rfl, hR⟩
  have h5 := hvr w1 hR
  have c5 : w1.cell? ⟨vr, 0, none⟩ = some (.bool true) := by rw [cell_of_blk h5]; rfl
  have f5 := frozen_of_blk h5 0
  go_wp2_with (fail)
  exact ⟨rfl, .tuple #[], by kernel_rfl, rfl, w1, hR, rfl⟩
set_option maxHeartbeats 2000000 in
set_option maxRecDepth 100000 in
theorem stepsOff (vm vd vs vr a mp : Nat) (w : World) (dO A8 B8 bits ns cs : Nat) (As : Option Addr) (nn : Int) (R : World → Prop) (hm : w.cell? ⟨vm, 0, none⟩ = some (.pointer (some ⟨mp, 0, none⟩))) (hd : w.cell? ⟨vd, 0, none⟩ = some (.pointer (some ⟨a, 0, none⟩)))
    (s0 : w.cell? ⟨vs, 0, none⟩ = some (.int .u8 dO)) (s1 : w.cell? ⟨vs, 1, none⟩ = some (.int .u8 A8)) (s2 : w.cell? ⟨vs, 2, none⟩ = some (.int .u8 B8)) (s3 : w.cell? ⟨vs, 3, none⟩ = some (.slice As ns cs)) (s4 : w.cell? ⟨vs, 4, none⟩ = some (.int .i8 nn)) (s5 : w.cell? ⟨vs, 5, none⟩ = some (.int .u64 bits)) (hdo : Calls Tryd.prog 7 #[.pointer (some ⟨mp, 0, none⟩), .pointer (some ⟨a, 0, none⟩), stepV dO A8 B8 (.slice As ns cs) nn bits] w (fun e w' => e = .panicked [{ v := offV, recovered := false }] ∧ R w')) :
    Calls Tryd.prog 14 #[.pointer (some ⟨vm, 0, none⟩), .pointer (some ⟨vd, 0, none⟩), .pointer (some ⟨vs, 0, none⟩), .pointer (some ⟨vr, 0, none⟩)] w (fun e w' => e = .panicked [{ v := offV, recovered := false }] ∧ R w') := by
  go_enter Tryd.func14, Tryd.ntmps14
  go_wp2_with (fail)
  refine hdo.mono ?_
  rintro e w1 ⟨rfl, hR⟩
  go_wp2_with (fail)
  exact ⟨rfl, rfl, hR⟩

theorem doIdle (B B' nb a pw t N mp mb dO A8 B8 bits ns cs : Nat) (As : Option Addr) (C D : Nat → Prop) (l u room nn : Int) (F : Files) (ds : List UInt8) (w : World) (h : Both B w C D nb N a pw mp mb l u room F t) (hn : NamesLaid w B') (hB' : B' ≤ w.heap.size) (hd8 : dO < 256) (hA8 : A8 < 256) (hB8 : B8 < 256) (hnb : nb < 1000000) (hN : N < 1000000)
    (hrd : Reads w B' 1 As ns (bv ds)) (hBB : B' ≤ B) (hn0 : -128 ≤ nn) (hn1 : nn ≤ 127) (hns : ns ≤ 1000) (hbits : bits < 2 ^ 64) (hs : stepB dO (F (nameAt A8)) ns nn room t = false) :
    Calls Tryd.prog 7 #[.pointer (some ⟨mp, 0, none⟩), .pointer (some ⟨a, 0, none⟩), stepV dO A8 B8 (.slice As ns cs) nn bits] w (RetB w B C D (nb + 1) (N + 1) a pw mp mb l u room) := by
  have htm : t ≤ 1000000 := by have := h.ds.t1; have := h.ds.r1; omega
  have hlen : ∀ bs kept, F (nameAt A8) = some (bs, kept) → bs.length ≤ 1000000 := fun bs kept hF => by
    have := h.ds.tot.one (nameAt A8)
    have h2 : lenF F (nameAt A8) = bs.length := by simp [lenF, hF]
    omega
  have hv : dO % 8 < 8 := Nat.mod_lt _ (by omega)
  obtain ⟨v, hve⟩ : ∃ v, v = dO % 8 := ⟨_, rfl⟩
  unfold stepB at hs
  rw [← hve] at hv hs
  by_cases h3 : v < 3
  · rw [if_pos h3] at hs
    have hr : ¬ (t : Int) + ns ≤ room := by simpa using hs
    cases hF : F (nameAt A8) with
    | none => apply doAppNX (h := h) (hn := hn) (hdo := hve.symm) (_hrd := hrd) (ds := ds) <;> first | assumption | omega
    | some x =>
      obtain ⟨bs, kept⟩ := x
      have hsm := hlen bs kept hF
      apply doAppX (h := h) (hn := hn) (hdo := hve.symm) (hF := hF) (_hrd := hrd) (ds := ds) <;> first | assumption | omega
  · rw [if_neg h3] at hs
    have hc : v = 3 ∨ v = 4 ∨ v = 5 ∨ v = 6 ∨ v = 7 := by omega
    cases hF : F (nameAt A8) with
    | none =>
      rcases hc with rfl | rfl | rfl | rfl | rfl
      · apply doSyncN (h := h) (hn := hn) (hF := hF) <;> first | assumption | omega
      · apply doMoveN (h := h) (hn := hn) (hF := hF) <;> first | assumption | omega
      · apply doRemoveN (h := h) (hn := hn) (hF := hF) <;> first | assumption | omega
      · apply doCutN (h := h) (hn := hn) (hF := hF) <;> first | assumption | omega
      · apply doCrash (h := h) (hn := hn) <;> first | assumption | omega
    | some x =>
      obtain ⟨bs, kept⟩ := x
      have hsm := hlen bs kept hF
      rw [hF] at hs
      rcases hc with rfl | rfl | rfl | rfl | rfl
      · simp at hs
      · simp at hs
      · simp at hs
      · have hr : ¬ (0 ≤ nn ∧ nn ≤ (bs.length : Int)) := by simpa using hs
        apply doCutR (h := h) (hn := hn) (hF := hF) <;> first | assumption | omega
      · apply doCrash (h := h) (hn := hn) <;> first | assumption | omega
/-- What the closure leaves behind. -/
def StepsR (B B' : Nat) (w : World) (C D : Nat → Prop) (nb N a pw mp mb : Nat) (l u room : Int) (st : Bool) (vd vm vr z : Nat) (b : Bool) (w2 : World) : Prop :=
  Below B' w w2 ∧ w2.heap[z]? = some (.cells #[.bool false] 4 (0, 0)) ∧ w.heap.size ≤ w2.heap.size ∧
  (b = true → (st = true → u < l) ∧ ∃ C2 D2 F2 t2, Both B w2 C2 D2 (nb + 1) (N + 1) a pw mp mb l (if st then u + 1 else u) room F2 t2 ∧ (∀ g, C2 g → C g ∨ w.heap.size ≤ g) ∧ (∀ g, D2 g → D g ∨ w.heap.size ≤ g) ∧ w2.heap[vd]? = w.heap[vd]? ∧ w2.heap[vm]? = w.heap[vm]? ∧ w2.heap[vr]? = some (.cells #[.bool true] 4 (0, 0))) ∧
  (b = false → st = true ∧ u = l ∧ Below w.heap.size w w2)
set_option maxHeartbeats 2000000 in
set_option maxRecDepth 100000 in
theorem stepsClo (B B' nb a pw t N mp mb dO A8 B8 bits ns cs : Nat) (As : Option Addr) (C D : Nat → Prop) (l u room nn : Int) (F : Files) (ds : List UInt8) (w : World) (st : Bool) (vm vd vs vr z : Nat) (h : Both B w C D nb N a pw mp mb l u room F t) (hn : NamesLaid w B') (hB' : B' ≤ w.heap.size) (hd8 : dO < 256) (hA8 : A8 < 256) (hB8 : B8 < 256) (hnb : nb < 1000000) (hN : N < 1000000)
    (hl : 0 ≤ l) (hul : u ≤ l) (hn0 : -128 ≤ nn) (hn1 : nn ≤ 127) (hrd : Reads w B' 1 As ns (bv ds)) (hBB : B' ≤ B) (hns : ns ≤ 1000) (hbits : bits < 2 ^ 64) (hst : st = stepB dO (F (nameAt A8)) ns nn room t)
    (hm : w.cell? ⟨vm, 0, none⟩ = some (.pointer (some ⟨mp, 0, none⟩))) (hd : w.cell? ⟨vd, 0, none⟩ = some (.pointer (some ⟨a, 0, none⟩)))
    (s0 : w.cell? ⟨vs, 0, none⟩ = some (.int .u8 dO)) (s1 : w.cell? ⟨vs, 1, none⟩ = some (.int .u8 A8)) (s2 : w.cell? ⟨vs, 2, none⟩ = some (.int .u8 B8)) (s3 : w.cell? ⟨vs, 3, none⟩ = some (.slice As ns cs)) (s4 : w.cell? ⟨vs, 4, none⟩ = some (.int .i8 nn)) (s5 : w.cell? ⟨vs, 5, none⟩ = some (.int .u64 bits))
    (hvr : w.heap[vr]? = some (.cells #[.bool true] 4 (0, 0))) (hz : w.heap[z]? = some (.cells #[.bool false] 4 (0, 0))) (hvz : vr ≠ z) (hvB : B' ≤ vr)
    (n1 : ¬ TouchB C D pw vr) (n2 : ¬ TouchB C D pw z) (n3 : ¬ TouchB C D pw vd) (n4 : ¬ TouchB C D pw vm) (n5 : vr ≠ vd) (n6 : vr ≠ vm) :
    Calls Tryd.prog 14 #[.pointer (some ⟨vm, 0, none⟩), .pointer (some ⟨vd, 0, none⟩), .pointer (some ⟨vs, 0, none⟩), .pointer (some ⟨vr, 0, none⟩)] w (fun e w2 => ∃ b : Bool, e = (if b then .returned (.tuple #[]) else .panicked [{ v := offV, recovered := false }]) ∧ StepsR B B' w C D nb N a pw mp mb l u room st vd vm vr z b w2) := by
  have hlvd := World.block_lt_of_cell? _ _ hd
  have hlvm := World.block_lt_of_cell? _ _ hm
  have hlvr := lt_of_heap hvr
  have hlz := lt_of_heap hz
  by_cases hgo : u < l ∨ st = false
  · -- the power stays
    have hdo : Calls Tryd.prog 7 #[.pointer (some ⟨mp, 0, none⟩), .pointer (some ⟨a, 0, none⟩), stepV dO A8 B8 (.slice As ns cs) nn bits] w (RetB w B C D (nb + 1) (N + 1) a pw mp mb l (if st then u + 1 else u) room) := by
      by_cases hu : u < l
      · rw [hst]
        exact doAll B B' nb a pw t N mp mb dO A8 B8 bits ns cs As C D l u room nn F ds w h hn hB' hd8 hA8 hB8 hnb hN (.inr hu) hn0 hn1 hrd hBB hns hbits
      · have hsf : st = false := by rcases hgo with h1 | h1; exact absurd h1 hu; exact h1
        subst hsf
        rw [if_neg (by decide)]
        exact doIdle B B' nb a pw t N mp mb dO A8 B8 bits ns cs As C D l u room nn F ds w h hn hB' hd8 hA8 hB8 hnb hN hrd hBB hn0 hn1 hns hbits hst.symm
    have hdo2 : Calls Tryd.prog 7 #[.pointer (some ⟨mp, 0, none⟩), .pointer (some ⟨a, 0, none⟩), stepV dO A8 B8 (.slice As ns cs) nn bits] w (fun e w1 => e = .returned (.bool true) ∧ ∃ C' D' F' t', Both B w1 C' D' (nb + 1) (N + 1) a pw mp mb l (if st then u + 1 else u) room F' t' ∧ (∀ g, C' g → C g ∨ w.heap.size ≤ g) ∧ (∀ g, D' g → D g ∨ w.heap.size ≤ g) ∧ Mod (TouchB C D pw) w w1) := hdo
    refine (stepsOn vm vd vs vr a mp w dO A8 B8 bits ns cs As nn _ hm hd s0 s1 s2 s3 s4 s5 (fun w' ⟨_, _, _, _, _, _, _, hmo⟩ => hmo.blk hvr n1) hdo2).mono ?_
    rintro e w' ⟨rfl, w1, ⟨C', D', F', t', hbo, hC, hD, hmo⟩, rfl⟩
    have hvr1 := hmo.blk hvr n1
    have hz1 := hmo.blk hz n2
    have hnv : ∀ g, g = vr → ¬ C' g ∧ ¬ D' g ∧ g ≠ pw := by
      rintro g rfl
      refine ⟨fun hg => ?_, fun hg => ?_, fun e => n1 (.inl (.inr e))⟩
      · rcases hC g hg with h1 | h1
        · exact n1 (.inl (.inl h1))
        · omega
      · rcases hD g hg with h1 | h1
        · exact n1 (.inr h1)
        · omega
    have hset : Mod (fun g => g = vr) w1 (w1.setCell ⟨vr, 0, none⟩ (.bool true)) := Mod.setCell (F := fun g => g = vr) (Mod.refl _ w1) (fun _ => rfl) _
    refine ⟨true, rfl, ?_, ?_, ?_, fun _ => ⟨fun h1 => hgo.resolve_right (by rw [h1]; decide), C', D', F', t', ⟨hbo.ds.mod hset (fun g hg e => (hnv g e).1 hg) (fun e => (hnv pw e).2.2 rfl), hbo.md.mod hset (fun g hg e => (hnv g e).2.1 hg), hbo.cd, hbo.dp, hbo.db⟩, hC, hD, ?_, ?_, ?_⟩, fun hb => by cases hb⟩
    · refine (hmo.below hB' fun g hg ht => ?_).setCell hvB _
      rcases ht with (h1 | h1) | h1
      · have := h.ds.base g h1; omega
      · have := h.ds.pbase; omega
      · have := h.db g h1; omega
    · exact blk_set_far hz1 (fun e => hvz e.symm) _
    · have := hmo.size
      simpa using this
    · refine (Below.heap_setCell w1 _ _ vd (fun e => n5 e.symm)).trans (hmo.block vd hlvd n3)
    · refine (Below.heap_setCell w1 _ _ vm (fun e => n6 e.symm)).trans (hmo.block vm hlvm n4)
    · have := blk_set hvr1 0 (.bool true)
      simpa using this
  · -- it goes
    have hu : u = l := by rcases Int.lt_or_le u l with h1 | h1; exact absurd (.inl h1) hgo; omega
    have hs : st = true := by cases st; exact absurd (.inr rfl) hgo; rfl
    subst hs
    have hdo := doAllOff B B' nb a pw t N mp mb dO A8 B8 bits ns cs As C D l u room nn F w h hn hB' hd8 hA8 hB8 hnb hN hl (by omega) hn1 hns hst.symm
    refine (stepsOff vm vd vs vr a mp w dO A8 B8 bits ns cs As nn _ hm hd s0 s1 s2 s3 s4 s5 hdo).mono ?_
    rintro e w' ⟨rfl, hb⟩
    exact ⟨false, rfl, hb.mono hB', (hb.block _ hlz).trans hz, hb.size, fun hb => (by cases hb), fun _ => ⟨rfl, hu, hb⟩⟩
end Go.Proofs.YtfccoiofpmhbdaaDoor
