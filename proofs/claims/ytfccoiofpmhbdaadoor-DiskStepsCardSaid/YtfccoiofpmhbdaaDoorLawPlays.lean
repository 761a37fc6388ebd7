/- Layer 4's law DiskPlays: any steps, on a disk and on the law's own. Condition: the slice of steps is laid, each with its bytes. -/
import Derived.Test.YtfccoiofpmhbdaaDoorM4f
import Derived.Test.YtfccoiofpmhbdaaDoorAwake4
namespace Go.Proofs.YtfccoiofpmhbdaaDoor
open Go Go.Proofs Go.RowKit

/-- A step, as it is laid. -/
structure StepT where
  dO : Nat
  A8 : Nat
  B8 : Nat
  As : Option Addr
  ns : Nat
  cs : Nat
  ds : List UInt8
  nn : Int
  bits : Nat
/-- A slice of steps, below B. -/
structure StepsAt (w : World) (B : Nat) (A : Option Addr) (n : Nat) (L : List StepT) : Prop where
  len : L.length = n
  cell : 0 < n → ∃ ad, A = some ad ∧ ad.block < B ∧ ∀ j s, L[j]? = some s → w.cell? (ad.add (j * 6)) = some (.int .u8 s.dO) ∧ w.cell? ⟨(ad.add (j * 6)).block, (ad.add (j * 6)).off + 1, none⟩ = some (.int .u8 s.A8) ∧ w.cell? ⟨(ad.add (j * 6)).block, (ad.add (j * 6)).off + 2, none⟩ = some (.int .u8 s.B8) ∧ w.cell? ⟨(ad.add (j * 6)).block, (ad.add (j * 6)).off + 3, none⟩ = some (.slice s.As s.ns s.cs) ∧ w.cell? ⟨(ad.add (j * 6)).block, (ad.add (j * 6)).off + 4, none⟩ = some (.int .i8 s.nn) ∧ w.cell? ⟨(ad.add (j * 6)).block, (ad.add (j * 6)).off + 5, none⟩ = some (.int .u64 s.bits)
  one : ∀ s ∈ L, s.dO < 256 ∧ s.A8 < 256 ∧ s.B8 < 256 ∧ (-128 ≤ s.nn ∧ s.nn ≤ 127) ∧ s.bits < 2 ^ 64 ∧ Reads w B 1 s.As s.ns (bv s.ds)
set_option maxHeartbeats 4000000 in
set_option maxRecDepth 100000 in
theorem diskPlays (room n c : Nat) (A : Option Addr) (L : List StepT) (W : World) (hN : NoneLaid W) (hn : NamesLaid W W.heap.size) (hr : room < 256) (hs : StepsAt W W.heap.size A n L) :
    Calls Tryd.prog 3 #[.int .u8 room, .slice A n c] W fun e w' => e = .returned (.bool true) ∧ Below W.heap.size W w' := by
  have HS := Lib.hid hs
  have HNL := Lib.hid hn
  clear hs hn
  have hw8 : IntKind.i64.wrap (room : Int) = (room : Int) := IntWalk.i64_in _ (by omega)
  go_enter Tryd.func3, Tryd.ntmps3
  go_wp2_with (fail)
  refine (awake4_any _ hN).mono ?_
  rintro e w0 ⟨rfl, hb0⟩
  by_cases h60 : 60 < n
  · have g0 : decide ((60 : Int) < (n : Int)) = true := decide_eq_true (by omega)
    go_wp2_with (fail)
    go_ret
    exact ⟨rfl, hb0⟩
  · have g0 : decide ((60 : Int) < (n : Int)) = false := decide_eq_false (by omega)
    go_wp2_with (fail)
    refine (dsNew room w0 (by omega) (by omega)).mono ?_
    rintro e w1 ⟨C, a, pw, rfl, hd, hb1⟩
    have HD1 := Lib.hid hd
    have HB1 := Lib.hid hb1
    have HB0 := Lib.hid hb0
    clear hd hb1 hb0
    have hmm := @run_makeMap Tryd.prog
    go_wp2_with (fail)
    clear hmm
    have hz1 : ((w1.alloc (.map #[] 0)).alloc (.cells #[.map (some w1.heap.size), .int .i64 room] 29 (0, 0))).heap.size = w1.heap.size + 2 := by rw [World.size_alloc, World.size_alloc]
    have hb2 : Below w1.heap.size w1 ((w1.alloc (.map #[] 0)).alloc (.cells #[.map (some w1.heap.size), .int .i64 room] 29 (0, 0))) := ((Below.refl w1.heap.size w1).alloc (Nat.le_refl _) _).alloc (by rw [World.size_alloc]; omega) _
    have hlt1 := HD1.out.lt
    have hz01 := HB1.out.size
    have hbw : W.heap.size ≤ w0.heap.size := HB0.out.size
    have hbo : Both w0.heap.size ((w1.alloc (.map #[] 0)).alloc (.cells #[.map (some w1.heap.size), .int .i64 room] 29 (0, 0))) C (fun b => b = w1.heap.size ∨ b = w1.heap.size + 1) 0 0 a pw (w1.heap.size + 1) w1.heap.size (-1) 0 room (fun _ => none) 0 := by
      refine ⟨HD1.out.below hb2, ⟨fun _ => .slice none 0 0, heap_new_at (by rw [World.size_alloc]), (MapAt.made w1).alloc _, (fun k bs kept hk => by cases hk), .inr rfl, .inl rfl, fun g hg => ?_⟩, fun g hg h => ?_, fun h => ?_, fun g hg => ?_⟩
      · rw [hz1]; rcases hg with h | h <;> omega
      · have := hlt1 g (.inl hg); rcases h with h | h <;> omega
      · have := hlt1 pw (.inr rfl); rcases h with h | h <;> omega
      · rcases hg with h | h <;> omega
    have HBO := Lib.hid hbo
    have HB2 := Lib.hid ((HB0.out.trans (HB1.out.mono hbw)).trans (hb2.mono (by omega)))
    clear hbo hb2 hz1 hlt1
    generalize ((w1.alloc (.map #[] 0)).alloc (.cells #[.map (some w1.heap.size), .int .i64 room] 29 (0, 0))) = w2 at *
    obtain ⟨mb, hmb⟩ : ∃ mb, mb = w1.heap.size := ⟨_, rfl⟩
    obtain ⟨mp, hmp⟩ : ∃ mp, mp = mb + 1 := ⟨_, rfl⟩
    rw [← hmb, ← hmp] at HBO ⊢
    clear hmb hmp hz01 HD1 HB1
    go_loopw [26] (fun i wr => ∃ (k t : Nat) (u : Int) (C D : Nat → Prop) (F : Files), k ≤ n ∧ i = .int .i64 k ∧ Hid (Both w0.heap.size wr C D k k a pw mp mb (-1) u room F t) ∧ Hid (Below W.heap.size W wr)) (fun i _ => n - (intOf i).toNat)
    case atStart => exact ⟨0, 0, 0, _, _, _, by omega, rfl, HBO, HB2⟩
    case round =>
      obtain ⟨k, t, u, C', D', F, hk, rfl, HBR, HB⟩ := hrel
      have hszr := HB.out.size
      by_cases hkn : k < n
      · have g0 : decide ((k : Int) < (n : Int)) = true := decide_eq_true (by omega)
        have hwk : IntKind.i64.wrap ((k : Int) + 1) = ((k + 1 : Nat) : Int) := by rw [IntWalk.i64_in _ (by omega)]; push_cast; rfl
        have k0 : (0 : Int) ≤ (k : Int) := by omega
        have k1 : (k : Int) < (n : Int) := by omega
        obtain ⟨s, hs⟩ : ∃ s, L[k]? = some s := ⟨_, List.getElem?_eq_getElem (by rw [HS.out.len]; exact hkn)⟩
        obtain ⟨ad, rfl, ha1, ha2⟩ := HS.out.cell (by omega)
        obtain ⟨p0, p1, p2, p3, p4, p5⟩ := ha2 k s hs
        have r0 := cellk HB.out (by rw [block_of_add]; exact ha1) p0
        have r1 := cellk HB.out (by show (ad.add (k * 6)).block < _; rw [block_of_add]; exact ha1) p1
        have r2 := cellk HB.out (by show (ad.add (k * 6)).block < _; rw [block_of_add]; exact ha1) p2
        have r3 := cellk HB.out (by show (ad.add (k * 6)).block < _; rw [block_of_add]; exact ha1) p3
        have r4 := cellk HB.out (by show (ad.add (k * 6)).block < _; rw [block_of_add]; exact ha1) p4
        have r5 := cellk HB.out (by show (ad.add (k * 6)).block < _; rw [block_of_add]; exact ha1) p5
        have hone := HS.out.one s (List.mem_of_getElem? hs)
        obtain ⟨o0, o1, o2, ⟨o3, o4⟩, o5, o6⟩ := hone
        have HRD := Lib.hid o6
        clear p0 p1 p2 p3 p4 p5 ha2 o6
        by_cases hns : 60 < s.ns
        · have g1 : decide ((60 : Int) < (s.ns : Int)) = true := decide_eq_true (by omega)
          go_wp2_with (fail)
          go_ret
          exact ⟨rfl, HB.out.alloc hszr _⟩
        · have g1 : decide ((60 : Int) < (s.ns : Int)) = false := decide_eq_false (by omega)
          go_wp2_with (fail)
          have hb6 : Below wr.heap.size wr (wr.alloc (.cells #[.int .u8 s.dO, .int .u8 s.A8, .int .u8 s.B8, .slice s.As s.ns s.cs, .int .i8 s.nn, .int .u64 s.bits] 34 (0, 0))) := (Below.refl wr.heap.size wr).alloc (Nat.le_refl _) _
          have HBR6 := Lib.hid (HBR.out.below hb6)
          have HB6 := Lib.hid (HB.out.trans (hb6.mono hszr))
          clear hb6 r0 r1 r2 r3 r4 r5
          generalize (wr.alloc (.cells #[.int .u8 s.dO, .int .u8 s.A8, .int .u8 s.B8, .slice s.As s.ns s.cs, .int .i8 s.nn, .int .u64 s.bits] 34 (0, 0))) = w6 at *
          refine (doAll w0.heap.size W.heap.size k a pw t k mp mb s.dO s.A8 s.B8 s.bits s.ns s.cs s.As C' D' (-1) u room s.nn F s.ds w6 HBR6.out (HNL.out.below HB6.out) HB6.out.size o0 o1 o2 (by omega) (by omega) (.inl (by omega)) o3 o4 (HRD.out.below HB6.out) hbw (by omega) o5).mono ?_
          rintro e w7 ⟨rfl, C2, D2, F2, t2, hbo, hC, hD, hmo⟩
          have hbw7 : Below W.heap.size w6 w7 := hmo.below HB6.out.size (fun g hg h => by
            rcases h with (h | h) | h
            · have := HBR6.out.ds.base g h; omega
            · have := HBR6.out.ds.pbase; omega
            · have := HBR6.out.db g h; omega)
          have HBO7 := Lib.hid hbo
          have HB7 := Lib.hid (HB6.out.trans hbw7)
          clear hbo hC hD hmo hbw7
          go_wp2_with (fail)
          refine (sameM w0.heap.size W.heap.size (k + 1) a pw t2 (k + 1) mp mb C2 D2 (-1) _ room F2 w7 HBO7.out (HNL.out.below HB7.out) HB7.out.size (by omega)).mono ?_
          rintro e w8 ⟨rfl, hb8⟩
          have HBO8 := Lib.hid (HBO7.out.below hb8)
          have HB8 := Lib.hid (HB7.out.trans (hb8.mono HB7.out.size))
          clear hb8
          go_wp2_with (fail)
          exact ⟨⟨k + 1, t2, _, C2, D2, F2, by omega, by push_cast; rfl, HBO8, HB8⟩, by simp [intOf]; omega⟩
      · obtain rfl : k = n := by omega
        have g0 : decide ((k : Int) < (k : Int)) = false := decide_eq_false (by omega)
        go_wp2_with (fail)
        go_ret
        exact ⟨rfl, HB.out⟩
end Go.Proofs.YtfccoiofpmhbdaaDoor
