/- selionlaw04.DiskRoom answers true, whatever the room. Condition: the package's variable 'none' holds what its text lays. -/
import Derived.Test.YtgonklbjbgekoaaDoorLawMoves
import Derived.Laws.OwnMore
namespace Go.Proofs.YtgonklbjbgekoaaDoor
open Go Go.Proofs Go.RowKit

def zeroB (n : Nat) : List UInt8 := List.replicate n 0
theorem zeroB_length (n : Nat) : (zeroB n).length = n := by simp [zeroB]
theorem makeB (n : Nat) (hn : n ≤ 1000000000) (w : World) : (Instr.makeSlice 22 (.int .i64 (n : Int)) (.int .i64 (n : Int))).run Tryd.prog w = .ok (.slice (some ⟨w.heap.size, 0, none⟩) n n) (w.alloc (.cells (bv (zeroB n)).toArray 5)) := by
  obtain ⟨i0, hi, hz0, hz1, hz2⟩ := info_parts info_u8
  rw [run_make w 22 5 i0 (.int .u8 0) Tryd.underlying22 hi hz0 .i64 .i64 n n (by omega) (by omega) (by rw [hz2]; omega) (by omega), hz1]
  simp only [Int.toNat_natCast, Nat.mul_one]
  have e : madeCells (Value.int .u8 0).cells n = (bv (zeroB n)).toArray := by
    apply Array.ext'
    simp [madeCells, bv, zeroB, byteV, Value.cells, Nat.mod_one]
    rw [List.map_const', List.length_range]
  rw [e]
theorem lenF_none {F : Files} {k : FName} (h : F k = none) : lenF F k = 0 := by simp [lenF, h]
theorem reads_nil (w : World) : Reads w 0 1 none 0 (bv []) := ⟨rfl, fun h => by omega⟩
theorem twoF_first {k k' : FName} (x y) (h : k ≠ k') : twoF k x k' y k = some x := by
  unfold twoF
  rw [putF_other _ _ h]
  exact oneF_same _ _
/-- The first of two files is moved to a third name. -/
theorem twoF_away {k k' k'' : FName} (x y) (h1 : k' ≠ k) : putF (delF_ (twoF k x k' y) k) k'' x = twoF k' y k'' x := funext fun z => by
  unfold putF delF_ twoF oneF putF
  split
  · rfl
  · split
    · rename_i h; subst h
      simp [Ne.symm h1]
    · rfl
theorem twoF_drop {k k' : FName} (x y) (h : k' ≠ k) : delF_ (twoF k x k' y) k' = oneF k x := funext fun z => by
  unfold delF_ twoF oneF putF
  split
  · rename_i h'; subst h'
    simp [h]
  · rfl
theorem twoF_app1 {k k' : FName} (bs news : List UInt8) (kept : Nat) (y) (h : k ≠ k') : putF (twoF k (bs, kept) k' y) k (dataF (twoF k (bs, kept) k' y) k ++ news, keptF (twoF k (bs, kept) k' y) k) = twoF k (bs ++ news, kept) k' y := by
  rw [dataF_of (twoF_first (bs, kept) y h), keptF_of (twoF_first (bs, kept) y h)]
  funext z
  unfold putF twoF oneF putF
  by_cases h1 : z = k
  · subst h1; simp [h]
  · simp [h1]
/-- Bytes of a block of the law's own, laid just ahead of the call, are appended. -/
theorem dsAppendFresh (B : Nat) (C : Nat → Prop) (nb a pw t : Nat) (l u room : Int) (F : Files) (k : Txt) (news : List UInt8) (n c : Nat) (cs : Array Value) (fr : Nat × Nat) (w : World) (h : DS B w C nb a pw l u room F t) (hcs : cs = (bv news).toArray) (hn : news.length = n) (hnb : nb < 1000000) (hl : l < 0 ∨ u < l) (hk : k.length ≤ maxLen)
    (hroom : (t : Int) + n ≤ room) :
    Calls Tryd.prog 17 #[.pointer (some ⟨a, 0, none⟩), txt k, .slice (some ⟨w.heap.size, 0, none⟩) n c] (w.alloc (.cells cs 5 fr)) fun e w' => e = .returned (.int .i64 0) ∧ ∃ C', DS B w' C' (nb + 1) a pw l (u + 1) room (putF F k (dataF F k ++ news, keptF F k)) (t + n) ∧ Below B w w' := by
  subst hcs
  have hb := (Below.refl w.heap.size w).alloc (Nat.le_refl _) (.cells (bv news).toArray 5 fr)
  refine (dsAppend B _ C nb a pw t l u room F k news (some ⟨w.heap.size, 0, none⟩) n c _ (h.below hb) hnb hl hk hroom (reads_new news (heap_alloc_new w _) hn.symm) (Nat.le_refl _) (fun g hg _ => by
    have hg : w.heap.size = g := by simpa using hg
    have h1 := h.lt g
    constructor
    · intro h'; have := h1 (.inl h'); omega
    · intro h'; have := h1 (.inr h'); omega)).mono ?_
  rintro e w' ⟨rfl, C', hd, _, _, hb'⟩
  exact ⟨rfl, C', hd, (hb.mono h.size).trans hb'⟩
theorem dsAppendFullFresh (B : Nat) (C : Nat → Prop) (nb a pw t : Nat) (l u room : Int) (F : Files) (k : Txt) (n c : Nat) (cs : Array Value) (fr : Nat × Nat) (A : Option Addr) (w : World) (h : DS B w C nb a pw l u room F t) (hn : n ≤ 1000000000) (hroom : room < (t : Int) + n) :
    Calls Tryd.prog 17 #[.pointer (some ⟨a, 0, none⟩), txt k, .slice A n c] (w.alloc (.cells cs 5 fr)) fun e w' => e = .returned (.int .i64 9) ∧ DS B w' C nb a pw l u room F t ∧ Below B w w' := by
  have hb := (Below.refl w.heap.size w).alloc (Nat.le_refl _) (.cells cs 5 fr)
  have hd := h.below hb
  refine (dsAppendFail B C nb a pw t l u room F k A n c _ hd hn hroom).mono ?_
  rintro e w' ⟨rfl, hb'⟩
  exact ⟨rfl, hd.below hb', (hb.mono h.size).trans (hb'.mono hd.size)⟩
set_option maxHeartbeats 8000000 in
set_option maxRecDepth 10000 in
theorem room_any (r n : Nat) (ct : Bool) (w : World) (hn : NoneLaid w) (hr : r < 256) (hnn : n < 256) :
    Calls Tryd.prog 6 #[.int .u8 r, .int .u8 n, .bool ct] w fun e w' => e = .returned (.bool true) ∧ Below w.heap.size w w' := by
  have hmk := fun (n : Nat) (hn : n ≤ 1000000000) (w : World) => makeB n hn w
  have hmr := fun (w : World) => makeB r (by omega) w
  clear hmk
  obtain ⟨k, hk⟩ : ∃ k : Nat, k = n % (r + 1) := ⟨_, rfl⟩
  have hk1 : k ≤ r := by rw [hk]; have := Nat.mod_lt n (show 0 < r + 1 by omega); omega
  have hk2 : (n : Int) % ((r : Int) + 1) = (k : Int) := by rw [hk]; push_cast; rfl
  have HK := Lib.hid hk
  clear hk
  go_enter Tryd.func6, Tryd.ntmps6
  go_wp2_with (fail)
  refine (awake4_any w hn).mono ?_
  rintro e w1 ⟨rfl, hb1⟩
  clear hn
  go_wp2_with (fail)
  refine (dsNew r w1 (by omega) (by omega)).mono ?_
  rintro e w2 ⟨C2, a, pw, rfl, hd2, hb2⟩
  have hB := hb1.size
  have HB2 := Lib.hid (hb1.trans (hb2.mono hB))
  clear hb2
  go_wp2_with (fail)
  refine (dsAppendFresh _ C2 0 a pw 0 (-1) 0 r _ [120] (zeroB r) r r _ _ w2 hd2 rfl (zeroB_length _) (by omega) (.inl (by omega)) (by decide) (by omega)).mono ?_
  rintro e w3 ⟨rfl, C3, hd3, hb3⟩
  have HD3 : Hid (DS w1.heap.size w3 C3 1 a pw (-1) 1 r (oneF [120] (zeroB r, 0)) (0 + r)) := Lib.hid hd3
  have HB3 := Lib.hid (HB2.out.trans (hb3.mono hB))
  clear hd2 hd3 hb3
  go_wp2_with (fail)
  refine (dsAppendFullFresh _ C3 1 a pw (0 + r) (-1) 1 r _ [121] 1 1 _ _ _ w3 HD3.out (by omega) (by omega)).mono ?_
  rintro e w4 ⟨rfl, hd4, hb4⟩
  have HD4 := Lib.hid hd4
  have HB4 := Lib.hid (HB3.out.trans (hb4.mono hB))
  clear hd4 hb4 HD3
  go_wp2_with (fail)
  refine (dsAppend _ 0 C3 1 a pw (0 + r) (-1) 1 r _ [121] [] none 0 0 w4 HD4.out (by omega) (.inl (by omega)) (by decide) (by omega) (reads_nil _) (Nat.zero_le _) (fun g hg _ => by cases hg)).mono ?_
  rintro e w5 ⟨rfl, C5, hd5, _, _, hb5⟩
  rw [twoF_new _ (by decide)] at hd5
  have HD5 : Hid (DS w1.heap.size w5 C5 2 a pw (-1) 2 r (twoF [120] (zeroB r, 0) [121] ([], 0)) (0 + r + 0)) := Lib.hid hd5
  have HB5 := Lib.hid (HB4.out.trans (hb5.mono hB))
  clear hd5 hb5 HD4
  go_wp2_with (fail)
  have hf5 := twoF_first (k := [120]) (k' := [121]) (zeroB r, 0) ([], 0) (by decide)
  refine (dsMove _ C5 2 a pw _ (-1) 2 r _ [120] [122] (zeroB r) 0 w5 HD5.out (by omega) (.inl (by omega)) (by decide) (by decide) hf5).mono ?_
  rintro e w6 ⟨rfl, C6, hd6, _, _, hb6⟩
  rw [twoF_away _ _ (by decide), lenF_of hf5, zeroB_length, lenF_none (k := [122]) (by simp [delF_, twoF, oneF, putF])] at hd6
  have HD6 : Hid (DS w1.heap.size w6 C6 3 a pw (-1) 3 r (twoF [121] ([], 0) [122] (zeroB r, 0)) (0 + r + 0 - r - 0 + r)) := Lib.hid hd6
  have HB6 := Lib.hid (HB5.out.trans (hb6.mono hB))
  clear hd6 hb6 HD5 hf5
  go_wp2_with (fail)
  refine (dsAppendFullFresh _ C6 3 a pw _ (-1) 3 r _ [121] 1 1 _ _ _ w6 HD6.out (by omega) (by omega)).mono ?_
  rintro e w7 ⟨rfl, hd7, hb7⟩
  have ht7 : 0 + r + 0 - r - 0 + r = r := by omega
  rw [ht7] at hd7
  have HD7 := Lib.hid hd7
  have HB7 := Lib.hid (HB6.out.trans (hb7.mono hB))
  clear hd7 hb7 HD6 ht7
  cases ct with
  | true =>
    clear hmr
    obtain ⟨j, hj⟩ : ∃ j : Nat, j = r - k := ⟨_, rfl⟩
    have hmr := fun (w : World) => makeB j (by omega) w
    have hj2 : (r : Int) - (k : Int) = (j : Int) := by omega
    have hjr : k + j = r := by omega
    clear hj
    go_wp2_with (fail)
    refine (dsCut _ C6 3 a pw r k (-1) 3 r _ [122] (zeroB r) 0 w7 HD7.out (by omega) (.inl (by omega)) (by decide) (twoF_same _ _ _ _) (by rw [zeroB_length]; exact hk1)).mono ?_
    rintro e w8 ⟨rfl, C8, hd8, _, _, hb8⟩
    rw [zeroB_length, Nat.sub_self, Nat.zero_add] at hd8
    have HD8 := Lib.hid hd8
    have HB8 := Lib.hid (HB7.out.trans (hb8.mono hB))
    clear hd8 hb8 HD7
    go_wp2_with (fail)
    refine (dsAppendFresh _ C8 4 a pw k (-1) 4 r _ [121] (zeroB j) j j _ _ w8 HD8.out rfl (zeroB_length _) (by omega) (.inl (by omega)) (by decide) (by omega)).mono ?_
    rintro e wx ⟨rfl, Cx, hdx, hbx⟩
    have htx : k + j = r := by omega
    rw [htx] at hdx
    have HDX := Lib.hid hdx
    have HBX := Lib.hid (HB8.out.trans (hbx.mono hB))
    clear hdx hbx HD8 HB8
    go_wp2_with (fail)
    refine (dsAppendFullFresh _ Cx _ a pw r _ _ _ _ [121] 1 1 _ _ _ wx HDX.out (by omega) (by omega)).mono ?_
    rintro e wy ⟨rfl, hdy, hby⟩
    have HDY := Lib.hid hdy
    have HBY := Lib.hid (HBX.out.trans (hby.mono hB))
    clear hdy hby HDX HBX
    go_wp2_with (fail)
    refine (dsUsed _ Cx _ a pw r _ _ _ _ wy HDY.out).mono ?_
    rintro e wz ⟨rfl, hbz⟩
    go_wp2_with (fail)
    go_ret
    exact ⟨by simp, HBY.out.trans (hbz.mono HBY.out.size)⟩
  | false =>
    go_wp2_with (fail)
    refine (dsRemove _ C6 3 a pw r (-1) 3 r _ [122] (zeroB r, 0) w7 HD7.out (by omega) (.inl (by omega)) (by decide) (twoF_same _ _ _ _)).mono ?_
    rintro e w8 ⟨rfl, C8, hd8, _, _, hb8⟩
    rw [lenF_of (twoF_same _ _ _ _), zeroB_length, Nat.sub_self] at hd8
    have HD8 := Lib.hid hd8
    have HB8 := Lib.hid (HB7.out.trans (hb8.mono hB))
    clear hd8 hb8 HD7
    go_wp2_with (fail)
    refine (dsAppendFresh _ C8 4 a pw 0 (-1) 4 r _ [121] (zeroB r) r r _ _ w8 HD8.out rfl (zeroB_length _) (by omega) (.inl (by omega)) (by decide) (by omega)).mono ?_
    rintro e wx ⟨rfl, Cx, hdx, hbx⟩
    have htx : 0 + r = r := by omega
    rw [htx] at hdx
    have HDX := Lib.hid hdx
    have HBX := Lib.hid (HB8.out.trans (hbx.mono hB))
    clear hdx hbx HD8 HB8
    go_wp2_with (fail)
    refine (dsAppendFullFresh _ Cx _ a pw r _ _ _ _ [121] 1 1 _ _ _ wx HDX.out (by omega) (by omega)).mono ?_
    rintro e wy ⟨rfl, hdy, hby⟩
    have HDY := Lib.hid hdy
    have HBY := Lib.hid (HBX.out.trans (hby.mono hB))
    clear hdy hby HDX HBX
    go_wp2_with (fail)
    refine (dsUsed _ Cx _ a pw r _ _ _ _ wy HDY.out).mono ?_
    rintro e wz ⟨rfl, hbz⟩
    go_wp2_with (fail)
    go_ret
    exact ⟨by simp, HBY.out.trans (hbz.mono HBY.out.size)⟩
end Go.Proofs.YtgonklbjbgekoaaDoor
