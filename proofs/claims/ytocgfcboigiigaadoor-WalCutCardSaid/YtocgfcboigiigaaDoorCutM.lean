/- WalF, WalP, WalQ, Cut7, CutW7, OpenC, LawWalCut7, in one text. The conditions stand at each theorem. -/
import Derived.Test.YtocgfcboigiigaaDoorWal
import Derived.Deep.RegionHeld3
import Derived.Deep.DrawnRows
namespace Go.Proofs.YtocgfcboigiigaaDoor
open Go Go.Proofs Go.RowKit

/-- What is split is what its pieces come to, from the first one on. -/
theorem splitF_take : ∀ (k : Nat) (bs : List UInt8), bs.length ≤ k → bs.take (splitF bs).2 = rowsF (splitF bs).1 := by
  intro k
  induction k with
  | zero =>
    intro bs h
    have hb : bs = [] := List.length_eq_zero_iff.1 (by omega)
    rw [hb, splitF_none (by decide)]
    rfl
  | succ k ih =>
    intro bs h
    cases hs : split1 bs with
    | none => rw [splitF_none hs]; rfl
    | some x =>
      obtain ⟨p, r⟩ := x
      obtain ⟨hl, hr⟩ := split1_len hs
      have h1 := ih r (by omega)
      rw [splitF_some hs, rowsF_cons, ← h1]
      simp only
      rw [List.take_add, ← hr]
      congr 1
      unfold split1 at hs
      split at hs
      · rename_i hc
        obtain ⟨c1, c2, c3⟩ := hc
        injection hs with hs
        injection hs with e1 e2
        subst e1
        have hpl : ((bs.drop 8).take (num4 bs)).length = num4 bs := by rw [List.length_take, List.length_drop]; omega
        unfold wrapF
        rw [hpl, c3, show 8 + num4 bs = 4 + (4 + num4 bs) by omega, List.take_add, four_num4 (by omega), List.take_add, four_num4 (by rw [List.length_drop]; omega), List.drop_drop, List.append_assoc]
      · cases hs
theorem splitF_small40 : ∀ (k : Nat) (bs : List UInt8), bs.length ≤ k → (∀ p ∈ (splitF bs).1, p.length ≤ bs.length) ∧ (splitF bs).1.length ≤ bs.length := by
  intro k
  induction k with
  | zero =>
    intro bs h
    have hb : bs = [] := List.length_eq_zero_iff.1 (by omega)
    rw [hb, splitF_none (by decide)]
    exact ⟨fun p hp => (by cases hp), Nat.le_refl _⟩
  | succ k ih =>
    intro bs h
    cases hs : split1 bs with
    | none => rw [splitF_none hs]; exact ⟨fun p hp => (by cases hp), Nat.zero_le _⟩
    | some x =>
      obtain ⟨p, r⟩ := x
      have hl := (split1_len hs).1
      obtain ⟨h1, h2⟩ := ih r (by omega)
      rw [splitF_some hs]
      refine ⟨fun q hq => ?_, by simp only [List.length_cons]; omega⟩
      simp only [List.mem_cons] at hq
      rcases hq with rfl | hq
      · omega
      · have := h1 q hq; omega
theorem rows_leN {w : World} {B n k : Nat} {A : Option Addr} {L : BL} (h : RowsAt w B A n L) (hb : ∀ p ∈ bytesOf L, p.length ≤ k) : ∀ x ∈ L, x.2.1 ≤ k := fun x hx => by
  have h1 := (h.2 x hx).1
  rw [bv_length] at h1
  have h2 := hb x.2.2.2 (List.mem_map_of_mem hx)
  omega
/-- A log is answered, and the pieces of its file; nothing older is touched. -/
def RetFull (w : World) (a : Nat) (k : Txt) (m : Nat) (ps : List (List UInt8)) (e : Ending) (w' : World) : Prop :=
  ∃ (p : Nat) (A : Option Addr) (c : Nat) (L : BL), e = .returned (.tuple #[.pointer (some ⟨p, 0, none⟩), .slice A m c, .int .i64 0]) ∧ LogAt w' p a k ∧ w.heap.size ≤ p ∧ RowsAt w' w'.heap.size A m L ∧ bytesOf L = ps ∧ Below w.heap.size w w' ∧ m ≤ c
set_option maxHeartbeats 4000000 in
set_option maxRecDepth 100000 in
theorem logOpen_full (B nb a pw t : Nat) (C : Nat → Prop) (l u room : Int) (F : Files) (k : Txt) (m : Nat) (ps : List (List UInt8)) (w : World) (h : DS B w C nb a pw l u room F t) (hk : k.length ≤ maxLen) (hF : F k = some (rowsF ps, (rowsF ps).length)) (hp : ∀ p ∈ ps, p.length ≤ 1000000) (hm : ps.length = m) :
    Calls Tryd.prog 31 #[.pointer (some ⟨a, 0, none⟩), .string ⟨k.toArray⟩] w (RetFull w a k m ps) := by
  have hsp := splitF_all ps (fun p hp' => Nat.lt_of_le_of_lt (hp p hp') (by decide))
  obtain ⟨bs, hbs⟩ : ∃ bs, bs = rowsF ps := ⟨_, rfl⟩
  rw [← hbs] at hF hsp
  have hln : bs.length ≤ 1000000 := by
    have h1 := h.tot.one k
    have h2 : lenF F k = bs.length := by simp [lenF, hF]
    have := h.t1
    have := h.r1
    omega
  have HD := Lib.hid h
  have HF := Lib.hid hF
  have HSP := Lib.hid hsp
  have HM := Lib.hid hm
  clear h hF hsp hbs hm
  obtain ⟨len, hlen⟩ : ∃ len, len = bs.length := ⟨_, rfl⟩
  rw [← hlen] at hln
  have HLEN := Lib.hid hlen
  clear hlen
  go_enter Tryd.func31, Tryd.ntmps31
  go_wp2_with (fail)
  have hb1 := (Below.refl w.heap.size w).alloc (Nat.le_refl _) (.cells #[.pointer (some ⟨a, 0, none⟩), .string ⟨k.toArray⟩] 80 (0, 0))
  have hp1 : LogAt (w.alloc (.cells #[.pointer (some ⟨a, 0, none⟩), .string ⟨k.toArray⟩] 80 (0, 0))) w.heap.size a k := heap_alloc_new _ _
  have hs1 : (w.alloc (.cells #[.pointer (some ⟨a, 0, none⟩), .string ⟨k.toArray⟩] 80 (0, 0))).heap.size = w.heap.size + 1 := World.size_alloc _ _
  have HD1 := Lib.hid (HD.out.below hb1)
  generalize w.alloc (.cells #[.pointer (some ⟨a, 0, none⟩), .string ⟨k.toArray⟩] 80 (0, 0)) = w1 at *
  refine (dsRead B C nb a pw t l u room F k bs bs.length w1 HD1.out hk HF.out).mono ?_
  rintro e w2 ⟨v, A2, c2, rfl, rfl, hrow2, _, hb2⟩
  rw [← HLEN.out] at hrow2 ⊢
  have hc2 : len ≤ c2 := by
    obtain ⟨_, _, e2, h2⟩ := hrow2.form
    injection e2 with _ _ e2
    omega
  have hz2 := hb2.size
  have hp2 := hp1.below hb2
  have HD2 := Lib.hid (HD1.out.below hb2)
  have HB2 := Lib.hid (hb1.trans (hb2.mono (by omega)))
  have HR2 := Lib.hid hrow2.reads
  clear hrow2 hb2 hp1 hb1 HD1
  go_wp2_with (fail)
  refine (splitC A2 len c2 _ bs w2 HR2.out (Nat.le_refl _) (by omega) hc2).mono ?_
  rintro e w3 ⟨v3, rfl, hpc3, hb3⟩
  rw [HSP.out]
  rw [HSP.out] at hpc3
  simp only at hpc3
  simp only [← HLEN.out]
  obtain ⟨A3, c3, L3, rfl, hr3, hL3⟩ := hpc3.rows
  have hcm : ps.length ≤ c3 := by
    obtain ⟨_, _, e2, h2⟩ := hpc3.form
    injection e2 with _ _ e2
    omega
  rw [HM.out] at hr3 hcm ⊢
  have hz3 := hb3.size
  have hp3 := hp2.below hb3
  have HD3 := Lib.hid (HD2.out.below hb3)
  have HB3 := Lib.hid (HB2.out.trans (hb3.mono (by omega)))
  have HR3 := Lib.hid hr3
  have HL3 := Lib.hid hL3
  clear hpc3 hb3 hp2 HD2 HB2 hr3 hL3
  have hgd : decide (len < len) = false := decide_eq_false (Nat.lt_irrefl _)
  go_wp2_with (fail)
  refine (dsKept B C nb a pw t l u room F k w3 HD3.out hk).mono ?_
  rintro e w4 ⟨rfl, rfl⟩
  have hkf : keptF F k = len := by simp [keptF, HF.out]; exact HLEN.out.symm
  rw [hkf]
  clear hkf
  go_wp2_with (fail)
  refine bodyPost_ret (v := .tuple #[.pointer (some ⟨w.heap.size, 0, none⟩), .slice A3 m c3, .int .i64 0]) (by simp [results, Tryd.results31, go_sem, *]) rfl ?_
  exact ⟨_, A3, c3, L3, rfl, hp3, Nat.le_refl _, HR3.out, HL3.out, HB3.out, hcm⟩
/-- The same, of a file that may not be there. -/
theorem logOpen_full' (B nb a pw t : Nat) (C : Nat → Prop) (l u room : Int) (F : Files) (k : Txt) (m : Nat) (ps : List (List UInt8)) (w : World) (h : DS B w C nb a pw l u room F t) (hk : k.length ≤ maxLen) (hh : LogHas F k ps) (hp : ∀ p ∈ ps, p.length ≤ 1000000) (hm : ps.length = m) :
    Calls Tryd.prog 31 #[.pointer (some ⟨a, 0, none⟩), .string ⟨k.toArray⟩] w (RetFull w a k m ps) := by
  rcases hh with ⟨hF, rfl⟩ | hF
  · obtain rfl : m = 0 := hm.symm
    refine (logOpen_new B nb a pw t C l u room F k w h hk hF).mono ?_
    rintro e w' ⟨rfl, h1, h2⟩
    exact ⟨_, none, 0, [], rfl, h1, Nat.le_refl _, ⟨Reads.none_, fun x hx => by cases hx⟩, rfl, h2, Nat.le_refl _⟩
  · exact logOpen_full B nb a pw t C l u room F k m ps w h hk hF hp hm

theorem tickX (p : Nat) (l u : Int) (w : World) (h : PwAt w p l u) (hl : 0 ≤ l) (hu : l ≤ u) :
    Calls Tryd.prog 55 #[.pointer (some ⟨p, 0, none⟩)] w fun e w' => e = .panicked [{ v := offV, recovered := false }] ∧ Below w.heap.size w w' := by
  have c0 : w.cell? ⟨p, 0, none⟩ = some (.int .i64 l) := by rw [cell_of_blk h]; rfl
  have c1 : w.cell? ⟨p, 1, none⟩ = some (.int .i64 u) := by rw [cell_of_blk h]; rfl
  refine (tick_off p l u w c0 c1 hl hu).mono ?_
  rintro e w' ⟨rfl, n, rfl⟩
  exact ⟨rfl, bdrewN (Below.refl _ _) n⟩
set_option maxHeartbeats 2000000 in
set_option maxRecDepth 100000 in
theorem dsAppendOff (B : Nat) (C : Nat → Prop) (nb a pw t : Nat) (l u room : Int) (F : Files) (k : Txt) (A : Option Addr) (n c : Nat) (w : World) (hd : DS B w C nb a pw l u room F t) (hl : 0 ≤ l) (hu : l ≤ u) (hn : n ≤ 1000000) (hroom : (t : Int) + n ≤ room) :
    Calls Tryd.prog 33 #[.pointer (some ⟨a, 0, none⟩), txt k, .slice A n c] w fun e w' => e = .panicked [{ v := offV, recovered := false }] ∧ Below w.heap.size w w' := by
  obtain ⟨N, hN, h⟩ := hd.disk
  have hr1 := hd.r1
  have ht := hd.tot
  have hp := hd.pow
  have hb : t ≤ 1000000000 := by have := hd.t1; omega
  have hD := Lib.hid h
  have hT := Lib.hid ht
  obtain ⟨mb, P, V, h⟩ := h
  have c2 : w.cell? ⟨a, 2, none⟩ = some (.int .i64 room) := by rw [cell_of_blk h.disk 2]; rfl
  have ha := lt_of_heap h.disk
  have hg : decide (room - (t : Int) < (n : Int)) = false := decide_eq_false (by omega)
  have hw : IntKind.i64.wrap (room - (t : Int)) = room - (t : Int) := IntWalk.i64_in _ (by have := hd.r0; omega)
  have hDI := Lib.hid h
  have hPw := Lib.hid hp
  clear h ht hp hd
  go_enter Tryd.func33, Tryd.ntmps33
  go_wp2_with (fail)
  go_region_with (go_at_call 54; refine (usedD C N a pw t room F _ hD.out.drew hT.out hb).mono ?_; rintro e w1 ⟨rfl, hb1⟩; have c3 := cellk hb1 (p := ⟨a, 2, none⟩) ha c2)
  all_goals
    replace hb1 := bundrew hb1
    clear hw hg c3
    have hD1 : DiskIn w1 C N a pw mb room F P V := hDI.out.mod (G := fun _ => False) (Mod.of_below hb1) (fun _ _ h => h)
    have hp1 := hPw.out.below hb1
    have e0 : w1.cell? ⟨a, 0, none⟩ = some (.pointer (some ⟨pw, 0, none⟩)) := by rw [cell_of_blk hD1.disk 0]; rfl
    clear hD1
    go_wp2_with (fail)
    refine (tickX pw l u _ hp1 hl hu).mono ?_
    rintro e w2 ⟨rfl, hb2⟩
    go_wp2_with (fail)
    exact ⟨rfl, rfl, hb1.trans (hb2.mono hb1.size)⟩
set_option maxHeartbeats 2000000 in
set_option maxRecDepth 100000 in
theorem dsSyncOff (B : Nat) (C : Nat → Prop) (nb a pw t : Nat) (l u room : Int) (F : Files) (k : Txt) (bs : List UInt8) (kept : Nat) (w : World) (hd : DS B w C nb a pw l u room F t) (hl : 0 ≤ l) (hu : l ≤ u) (hk : k.length ≤ maxLen) (hF : F k = some (bs, kept)) :
    Calls Tryd.prog 45 #[.pointer (some ⟨a, 0, none⟩), txt k] w fun e w' => e = .panicked [{ v := offV, recovered := false }] ∧ Below w.heap.size w w' := by
  obtain ⟨N, hN, mb, P, V, h⟩ := hd.disk
  have hp := hd.pow
  have hM := Lib.hid h.map
  have c0 : w.cell? ⟨a, 0, none⟩ = some (.pointer (some ⟨pw, 0, none⟩)) := by rw [cell_of_blk h.disk 0]; rfl
  have c1 : w.cell? ⟨a, 1, none⟩ = some (.map (some mb)) := by rw [cell_of_blk h.disk 1]; rfl
  have HR : Hid ((Option.map (fun _ => Value.pointer (some ⟨P k, 0, none⟩)) (F k)) = some (.pointer (some ⟨P k, 0, none⟩))) := Lib.hid (by rw [hF]; rfl)
  have HP := Lib.hid hp
  clear h hF hp hd
  go_enter Tryd.func45, Tryd.ntmps45
  go_wp2_with (at_lookup; (refine wpList_look rfl _ _ 82 rfl 85 Tryd.underlying82 (zeroFile _) mb N _ rfl hM.out k rfl hk _ HR.out ?_))
  refine (tickX pw l u _ HP.out hl hu).mono ?_
  rintro e w2 ⟨rfl, hb2⟩
  go_wp2_with (fail)
  exact ⟨rfl, rfl, hb2⟩
set_option maxHeartbeats 2000000 in
set_option maxRecDepth 100000 in
theorem dsCutOff (B : Nat) (C : Nat → Prop) (nb a pw t m : Nat) (l u room : Int) (F : Files) (k : Txt) (bs : List UInt8) (kept : Nat) (w : World) (hd : DS B w C nb a pw l u room F t) (hl : 0 ≤ l) (hu : l ≤ u) (hk : k.length ≤ maxLen) (hF : F k = some (bs, kept)) (hm : m ≤ bs.length) :
    Calls Tryd.prog 53 #[.pointer (some ⟨a, 0, none⟩), txt k, .int .i64 m] w fun e w' => e = .panicked [{ v := offV, recovered := false }] ∧ Below w.heap.size w w' := by
  obtain ⟨N, hN, mb, P, V, h⟩ := hd.disk
  have hp := hd.pow
  have hM := Lib.hid h.map
  have c0 : w.cell? ⟨a, 0, none⟩ = some (.pointer (some ⟨pw, 0, none⟩)) := by rw [cell_of_blk h.disk 0]; rfl
  have c1 : w.cell? ⟨a, 1, none⟩ = some (.map (some mb)) := by rw [cell_of_blk h.disk 1]; rfl
  have HR : Hid ((Option.map (fun _ => Value.pointer (some ⟨P k, 0, none⟩)) (F k)) = some (.pointer (some ⟨P k, 0, none⟩))) := Lib.hid (by rw [hF]; rfl)
  obtain ⟨g1, g2, _, _⟩ := h.file k bs kept hF
  obtain ⟨A', c', hV, hc⟩ := g2.form
  have d0 : w.cell? ⟨P k, 0, none⟩ = some (.slice A' bs.length c') := by rw [cell_of_blk g1]; exact congrArg some hV
  have HP := Lib.hid hp
  have hm0 : (0 : Int) ≤ (m : Int) := by omega
  have hm1 : decide ((bs.length : Int) < (m : Int)) = false := by simp; omega
  clear h hF hp g1 g2 hV hd
  go_enter Tryd.func53, Tryd.ntmps53
  go_wp2_with (at_lookup; (refine wpList_look rfl _ _ 82 rfl 85 Tryd.underlying82 (zeroFile _) mb N _ rfl hM.out k rfl hk _ HR.out ?_))
  refine (tickX pw l u _ HP.out hl hu).mono ?_
  rintro e w2 ⟨rfl, hb2⟩
  go_wp2_with (fail)
  exact ⟨rfl, rfl, hb2⟩
set_option maxHeartbeats 2000000 in
set_option maxRecDepth 100000 in
/-- Another power, from now on. -/
theorem dsPower (B : Nat) (C : Nat → Prop) (nb a pw t pw' : Nat) (l u room l' u' : Int) (F : Files) (w : World) (hd : DS B w C nb a pw l u room F t) (hp : PwAt w pw' l' u') (hpc : ¬ C pw') (hB : B ≤ pw') (hu0 : 0 ≤ u') (hu1 : u' ≤ nb) :
    Calls Tryd.prog 36 #[.pointer (some ⟨a, 0, none⟩), .pointer (some ⟨pw', 0, none⟩)] w fun e w' => e = .returned (.tuple #[]) ∧ DS B w' C nb a pw' l' u' room F t ∧ Mod C w w' := by
  obtain ⟨N, hN, mb, P, V, h⟩ := hd.disk
  have c0 : w.cell? ⟨a, 0, none⟩ = some (.pointer (some ⟨pw, 0, none⟩)) := by rw [cell_of_blk h.disk 0]; rfl
  have f0 := frozen_of_blk h.disk 0
  have HD := Lib.hid hd
  have H := Lib.hid h
  have HP := Lib.hid hp
  clear hd h hp
  go_enter Tryd.func36, Tryd.ntmps36
  go_wp2_with (fail)
  go_end0
  refine ⟨rfl, ?_, ?_⟩
  have hm : Mod (fun b => b = a) w (w.setCell ⟨a, 0, none⟩ (.pointer (some ⟨pw', 0, none⟩))) := Mod.setCell (F := fun b => b = a) (Mod.refl _ w) (fun _ => rfl) _
  have hk : ∀ k bs kept, F k = some (bs, kept) → P k ≠ a ∧ ∀ g, (V k).ownBlock = some g → g ≠ a := fun k bs kept hF => by
    obtain ⟨h1, h2, h3, h4⟩ := H.out.kinds hF
    exact ⟨h1, fun g hg => (h4 g hg).1⟩
  have ham : a ≠ mb := fun e => by
    obtain ⟨D, ⟨es, clock, hmm, _⟩, _⟩ := H.out.map
    have := H.out.disk
    rw [e, hmm] at this
    cases this
  · refine { HD.out with disk := ⟨N, hN, mb, P, V, ?_⟩, pow := HP.out.mod hm (fun e => hpc (e ▸ H.out.ca)), npw := hpc, pbase := hB, u0 := hu0, u1 := hu1 }
    exact ⟨blk_set H.out.disk 0 _, H.out.map.mod hm (fun e => ham e.symm), fun k bs kept hF => by
      obtain ⟨h1, h2, h3, h4⟩ := H.out.file k bs kept hF
      obtain ⟨k1, k2⟩ := hk k bs kept hF
      exact ⟨hm.blk h1 k1, h2.mod hm (fun g hg => k2 g hg), h3, h4⟩, H.out.apart, H.out.ca, H.out.cm, fun b hb => by rw [World.size_setCell]; exact H.out.lt b hb⟩
  · exact Mod.setCell (F := C) (Mod.refl _ w) (fun _ => H.out.ca) _

set_option maxHeartbeats 4000000 in
set_option maxRecDepth 100000 in
theorem logAppendOn (B nb a pw t p B' : Nat) (C : Nat → Prop) (l u room : Int) (F : Files) (k : Txt) (bs : List UInt8) (A : Option Addr) (n c : Nat) (w : World) (h : DS B w C nb a pw l u room F t) (hp : LogAt w p a k) (hpc : ¬ C p) (hpp : p ≠ pw) (hnb : nb + 2 ≤ 1000000) (hl : l < 0 ∨ u + 2 ≤ l) (hk : k.length ≤ maxLen) (hr : Reads w B' 1 A n (bv bs)) (hB' : B' ≤ w.heap.size) (hn : n ≤ 100000) (hroom : (t : Int) + ((n + 8 : Nat) : Int) ≤ room) :
    Calls Tryd.prog 32 #[.pointer (some ⟨p, 0, none⟩), .slice A n c] w (RetDS w B C (nb + 2) a pw l (u + 2) room (putF F k (dataF F k ++ wrapF bs, (dataF F k ++ wrapF bs).length)) (t + (n + 8)) (.int .i64 0)) := by
  have HD := Lib.hid h
  have HP := Lib.hid hp
  have HR := Lib.hid hr
  have c0 := hp.c0
  have c1 := hp.c1
  have hplt := lt_of_heap hp
  have hsz := h.size
  clear h hp hr
  go_enter Tryd.func32, Tryd.ntmps32
  go_wp2_with (fail)
  have hlt := HD.out.lt
  go_region_held3 (fun w' => w'.cell? ⟨p, 0, none⟩ = some (.pointer (some ⟨a, 0, none⟩)) ∧ w'.cell? ⟨p, 1, none⟩ = some (.string ⟨k.toArray⟩)) (first | exact ⟨e0, e1⟩ | exact ⟨d0, d1⟩ | exact ⟨c0, c1⟩ | go_keep) ((first
    | (go_at_call 16; refine (wrapC A n c B' bs _ (by exact HR.out) (by exact hB') (by omega)).mono ?_; rintro e w1 ⟨A1, c1', rfl, hown1, hb1⟩; have hbx : Below w.heap.size w w1 := ((Below.refl w.heap.size w).drew).trans hb1; have d0 := cellk hbx hplt c0; have d1 := cellk hbx hplt c1; have HB1 := Lib.hid hbx; clear hbx; have HO1 := Lib.hid hown1; clear hown1 hb1)
    | (go_at_call 33; refine (dsAppend B w1.heap.size C nb a pw t l u room F k (wrapF bs) A1 (n + 8) c1' w1 (HD.out.below HB1.out) (by omega) (by omega) hk hroom (Reads.of_own HO1.out) (Nat.le_refl _) (fun g hg hn => (by (have h1 := own_sep HO1.out hg); exact ⟨fun h => Nat.not_lt.2 h1 (hlt g (.inl h)), fun h => Nat.not_lt.2 h1 (hlt g (.inr h))⟩))).mono ?_; rintro e w2 ⟨rfl, C2, hd2, hc2, hm2, hb2⟩; have hp2 := (HP.out.below HB1.out).mod hm2 (fun h => h.elim hpc hpp); have e0 := hp2.c0; have e1 := hp2.c1; have HD2 := Lib.hid hd2; have HC2 := Lib.hid hc2; have HM2 := Lib.hid hm2; have HP2 := Lib.hid hp2; clear hd2 hc2 hm2 hb2 hp2)))
  have hzw := HB1.out.size
  have hp2c : ¬ TouchD C2 pw p := fun h => by
    rcases h with h | h
    · rcases HC2.out p h with h | h
      · exact hpc h
      · omega
    · exact hpp h
  go_wp2_with (fail)
  go_region_held3 (fun w' => w'.cell? ⟨p, 0, none⟩ = some (.pointer (some ⟨a, 0, none⟩)) ∧ w'.cell? ⟨p, 1, none⟩ = some (.string ⟨k.toArray⟩)) (first | exact ⟨f0, f1⟩ | exact ⟨e0, e1⟩ | go_keep) ((go_at_call 45; refine (dsSync B C2 (nb + 1) a pw (t + (n + 8)) l (u + 1) room (putF F k (dataF F k ++ wrapF bs, keptF F k)) k (dataF F k ++ wrapF bs) (keptF F k) _ (HD2.out.below ((Below.refl _ _).drew)) (by omega) (by omega) hk (putF_same _ _ _)).mono ?_; rintro e w3 ⟨rfl, C3, hd3, hc3, hm3, hb3⟩; have hp3 := LogAt.mod (by exact HP2.out) hm3 hp2c; have f0 := hp3.c0; have f1 := hp3.c1; have HD3 := Lib.hid hd3; have HC3 := Lib.hid hc3; have HM3 := Lib.hid hm3; have HB3 := Lib.hid hb3; clear hd3 hc3 hm3 hb3 hp3))
  go_wp2_with (fail)
  go_ret
  have hmw := (Mod.of_below (F := TouchD C pw) HB1.out).trans HM2.out (fun _ _ h => h)
  have hd3 := HD3.out
  rw [putF_putF, show nb + 1 + 1 = nb + 2 from rfl, show u + 1 + 1 = u + 2 by omega] at hd3
  refine RetDS.trans hmw (fun b hb => ?_) (HD.out.keeps hmw) ⟨rfl, C3, hd3, HC3.out, HM3.out.undrew, ((Below.refl B w2).drew).trans HB3.out⟩
  rcases HC2.out b hb with h | h
  · exact .inl h
  · exact .inr (by omega)

set_option maxHeartbeats 4000000 in
set_option maxRecDepth 100000 in
/-- Append without room: the disk's error, and nothing is changed. -/
theorem logAppendOff1 (B nb a pw t p B' : Nat) (C : Nat → Prop) (l u room : Int) (F : Files) (k : Txt) (bs : List UInt8) (A : Option Addr) (n c : Nat) (w : World) (h : DS B w C nb a pw l u room F t) (hp : LogAt w p a k) (hr : Reads w B' 1 A n (bv bs)) (hB' : B' ≤ w.heap.size) (hn : n ≤ 100000) (hroom : (t : Int) + ((n + 8 : Nat) : Int) ≤ room) (hl : 0 ≤ l) (hu : l ≤ u) :
    Calls Tryd.prog 32 #[.pointer (some ⟨p, 0, none⟩), .slice A n c] w fun e w' => e = .panicked [{ v := offV, recovered := false }] ∧ Below w.heap.size w w' := by
  have HD := Lib.hid h
  have HP := Lib.hid hp
  have HR := Lib.hid hr
  have c0 := hp.c0
  have c1 := hp.c1
  have hplt := lt_of_heap hp
  clear h hp hr
  go_enter Tryd.func32, Tryd.ntmps32
  go_wp2_with (fail)
  refine wp_region_held_drew (S := (fun w' => w'.cell? ⟨p, 0, none⟩ = some (.pointer (some ⟨a, 0, none⟩)) ∧ w'.cell? ⟨p, 1, none⟩ = some (.string ⟨k.toArray⟩))) (by kernel_rfl) ⟨c0, c1⟩ (fun hSS => ?_)
  refine' wpAnyH_take (i := 0) (oi := _) (v := ?v0) rfl (by kernel_rfl) (by kernel_rfl) (by kernel_rfl) (fun _ _ _ h => h) (Or.inl ⟨by rfl, ?hy0⟩) hSS ?rest0
  case hy0 => ((intro w' hSw; (try dsimp only at hSw)); go_simp <;> with_reducible rfl)
  set_option linter.unusedSimpArgs false in try simp only [Act.put, List.setIfInBounds_toArray, List.set_cons_zero, List.set_cons_succ, List.getElem_toArray, List.getElem_cons_zero, List.getElem_cons_succ]
  refine' wpAnyH_take (i := 1) (oi := _) (v := ?v1) rfl (by kernel_rfl) (by kernel_rfl) (by kernel_rfl) (fun _ _ _ h => h) (Or.inl ⟨by rfl, ?hy1⟩) hSS ?rest1
  case hy1 => ((intro w' hSw; (try dsimp only at hSw)); go_simp <;> with_reducible rfl)
  set_option linter.unusedSimpArgs false in try simp only [Act.put, List.setIfInBounds_toArray, List.set_cons_zero, List.set_cons_succ, List.getElem_toArray, List.getElem_cons_zero, List.getElem_cons_succ]
  refine' wpAnyH_take (i := 2) (oi := _) (v := ?v2) rfl (by kernel_rfl) (by kernel_rfl) (by kernel_rfl) (fun _ _ _ h => h) (Or.inl ⟨by rfl, ?hy2⟩) hSS ?rest2
  case hy2 => ((intro w' hSw; (try dsimp only at hSw)); go_simp <;> with_reducible rfl)
  set_option linter.unusedSimpArgs false in try simp only [Act.put, List.setIfInBounds_toArray, List.set_cons_zero, List.set_cons_succ, List.getElem_toArray, List.getElem_cons_zero, List.getElem_cons_succ]
  refine' wpAnyH_take (i := 3) (oi := _) (v := ?v3) rfl (by kernel_rfl) (by kernel_rfl) (by kernel_rfl) (fun _ _ _ h => h) (Or.inl ⟨by rfl, ?hy3⟩) hSS ?rest3
  case hy3 => ((intro w' hSw; (try dsimp only at hSw)); go_simp <;> with_reducible rfl)
  set_option linter.unusedSimpArgs false in try simp only [Act.put, List.setIfInBounds_toArray, List.set_cons_zero, List.set_cons_succ, List.getElem_toArray, List.getElem_cons_zero, List.getElem_cons_succ]
  refine' wpAnyH_take (i := 4) (oi := _) (v := ?v4) rfl (by kernel_rfl) (by kernel_rfl) (by kernel_rfl) (fun _ _ _ h => h) (Or.inl ⟨by rfl, ?hy4⟩) hSS ?rest4
  case hy4 => ((intro w' hSw; (try dsimp only at hSw)); go_simp <;> with_reducible rfl)
  set_option linter.unusedSimpArgs false in try simp only [Act.put, List.setIfInBounds_toArray, List.set_cons_zero, List.set_cons_succ, List.getElem_toArray, List.getElem_cons_zero, List.getElem_cons_succ]
  refine' wpAnyH_take (i := 5) (oi := _) (v := ?v5) rfl (by kernel_rfl) (by kernel_rfl) (by kernel_rfl) (fun _ _ _ h => h) (Or.inl ⟨by rfl, ?hy5⟩) hSS ?rest5
  case hy5 => ((intro w' hSw; (try dsimp only at hSw)); go_simp <;> with_reducible rfl)
  set_option linter.unusedSimpArgs false in try simp only [Act.put, List.setIfInBounds_toArray, List.set_cons_zero, List.set_cons_succ, List.getElem_toArray, List.getElem_cons_zero, List.getElem_cons_succ]
  refine' wpAnyH_take (i := 6) (oi := _) (v := ?v6) rfl (by kernel_rfl) (by kernel_rfl) (by kernel_rfl) (fun _ _ _ h => h) (Or.inl ⟨by rfl, ?hy6⟩) hSS ?rest6
  case hy6 => ((intro w' hSw; (try dsimp only at hSw)); go_simp <;> with_reducible rfl)
  set_option linter.unusedSimpArgs false in try simp only [Act.put, List.setIfInBounds_toArray, List.set_cons_zero, List.set_cons_succ, List.getElem_toArray, List.getElem_cons_zero, List.getElem_cons_succ]
  refine' wpAnyH_take (i := 7) (oi := _) (v := ?v7) rfl (by kernel_rfl) (by kernel_rfl) (by kernel_rfl) (fun _ _ _ h => h) (Or.inl ⟨by rfl, ?hy7⟩) hSS ?rest7
  case hy7 => ((intro w' hSw; (try dsimp only at hSw)); go_simp <;> with_reducible rfl)
  set_option linter.unusedSimpArgs false in try simp only [Act.put, List.setIfInBounds_toArray, List.set_cons_zero, List.set_cons_succ, List.getElem_toArray, List.getElem_cons_zero, List.getElem_cons_succ]
  refine' wpAnyH_take (i := 8) (oi := _) (v := ?v8) rfl (by kernel_rfl) (by kernel_rfl) (by kernel_rfl) (fun _ _ _ h => h) (Or.inl ⟨by rfl, ?hy8⟩) hSS ?rest8
  case hy8 => ((intro w' hSw; (try dsimp only at hSw)); go_simp <;> with_reducible rfl)
  set_option linter.unusedSimpArgs false in try simp only [Act.put, List.setIfInBounds_toArray, List.set_cons_zero, List.set_cons_succ, List.getElem_toArray, List.getElem_cons_zero, List.getElem_cons_succ]
  refine wpAnyH_ready (rs := [9]) (by kernel_rfl) (by simp) ?_
  refine AllReadyH.cons rfl (fun K hK => ?_) AllReadyH.nil
  go_simp
  (go_at_call 16; refine (wrapC A n c B' bs _ (by exact HR.out) (by exact hB') (by omega)).mono ?_; rintro e w1 ⟨A1, c1', rfl, hown1, hb1⟩; have hbx : Below w.heap.size w w1 := ((Below.refl w.heap.size w).drew).trans hb1; have d0 := cellk hbx hplt c0; have d1 := cellk hbx hplt c1; have HB1 := Lib.hid hbx; have HO1 := Lib.hid hown1; clear hbx hown1 hb1; go_wp2_with fail)
  refine hK.out _ _ ⟨d0, d1⟩ (fun hSS => ?_)
  clear hK K
  set_option linter.unusedSimpArgs false in try simp only [Act.put, List.setIfInBounds_toArray, List.set_cons_zero, List.set_cons_succ, List.getElem_toArray, List.getElem_cons_zero, List.getElem_cons_succ]
  refine wpAnyH_ready (rs := [10]) (by kernel_rfl) (by simp) ?_
  refine AllReadyH.cons rfl (fun K hK => ?_) AllReadyH.nil
  go_simp
  refine (dsAppendOff B C nb a pw t l u room F k A1 (n + 8) c1' w1 (HD.out.below HB1.out) hl hu (by omega) hroom).mono ?_
  rintro e w2 ⟨rfl, hb2⟩
  exact ⟨rfl, rfl, HB1.out.trans (hb2.mono HB1.out.size)⟩
set_option maxHeartbeats 4000000 in
set_option maxRecDepth 100000 in
theorem logAppendOff2 (B nb a pw t p B' : Nat) (C : Nat → Prop) (l u room : Int) (F : Files) (k : Txt) (bs : List UInt8) (A : Option Addr) (n c : Nat) (w : World) (h : DS B w C nb a pw l u room F t) (hp : LogAt w p a k) (hpc : ¬ C p) (hpp : p ≠ pw) (hnb : nb + 2 ≤ 1000000) (hl : u + 1 = l) (hu0 : 0 ≤ u) (hk : k.length ≤ maxLen) (hr : Reads w B' 1 A n (bv bs)) (hB' : B' ≤ w.heap.size) (hn : n ≤ 100000) (hroom : (t : Int) + ((n + 8 : Nat) : Int) ≤ room) :
    Calls Tryd.prog 32 #[.pointer (some ⟨p, 0, none⟩), .slice A n c] w fun e w' => e = .panicked [{ v := offV, recovered := false }] ∧ ∃ C', DS B w' C' (nb + 1) a pw l (u + 1) room (putF F k (dataF F k ++ wrapF bs, keptF F k)) (t + (n + 8)) ∧ (∀ b, C' b → C b ∨ w.heap.size ≤ b) ∧ Mod (TouchD C pw) w w' ∧ Below B w w' := by
  have HD := Lib.hid h
  have HP := Lib.hid hp
  have HR := Lib.hid hr
  have c0 := hp.c0
  have c1 := hp.c1
  have hplt := lt_of_heap hp
  have hsz := h.size
  clear h hp hr
  go_enter Tryd.func32, Tryd.ntmps32
  go_wp2_with (fail)
  have hlt := HD.out.lt
  go_region_held3 (fun w' => w'.cell? ⟨p, 0, none⟩ = some (.pointer (some ⟨a, 0, none⟩)) ∧ w'.cell? ⟨p, 1, none⟩ = some (.string ⟨k.toArray⟩)) (first | exact ⟨e0, e1⟩ | exact ⟨d0, d1⟩ | exact ⟨c0, c1⟩ | go_keep) ((first
    | (go_at_call 16; refine (wrapC A n c B' bs _ (by exact HR.out) (by exact hB') (by omega)).mono ?_; rintro e w1 ⟨A1, c1', rfl, hown1, hb1⟩; have hbx : Below w.heap.size w w1 := ((Below.refl w.heap.size w).drew).trans hb1; have d0 := cellk hbx hplt c0; have d1 := cellk hbx hplt c1; have HB1 := Lib.hid hbx; clear hbx; have HO1 := Lib.hid hown1; clear hown1 hb1)
    | (go_at_call 33; refine (dsAppend B w1.heap.size C nb a pw t l u room F k (wrapF bs) A1 (n + 8) c1' w1 (HD.out.below HB1.out) (by omega) (by omega) hk hroom (Reads.of_own HO1.out) (Nat.le_refl _) (fun g hg hn => (by (have h1 := own_sep HO1.out hg); exact ⟨fun h => Nat.not_lt.2 h1 (hlt g (.inl h)), fun h => Nat.not_lt.2 h1 (hlt g (.inr h))⟩))).mono ?_; rintro e w2 ⟨rfl, C2, hd2, hc2, hm2, hb2⟩; have hp2 := (HP.out.below HB1.out).mod hm2 (fun h => h.elim hpc hpp); have e0 := hp2.c0; have e1 := hp2.c1; have HD2 := Lib.hid hd2; have HC2 := Lib.hid hc2; have HM2 := Lib.hid hm2; have HP2 := Lib.hid hp2; clear hd2 hc2 hm2 hb2 hp2)))
  have hzw := HB1.out.size
  have hp2c : ¬ TouchD C2 pw p := fun h => by
    rcases h with h | h
    · rcases HC2.out p h with h | h
      · exact hpc h
      · omega
    · exact hpp h
  go_wp2_with (fail)
  refine wp_region_held_drew (S := (fun w' => w'.cell? ⟨p, 0, none⟩ = some (.pointer (some ⟨a, 0, none⟩)) ∧ w'.cell? ⟨p, 1, none⟩ = some (.string ⟨k.toArray⟩))) (by kernel_rfl) ⟨e0, e1⟩ (fun hSS => ?_)
  refine' wpAnyH_take (i := 0) (oi := _) (v := ?v0) rfl (by kernel_rfl) (by kernel_rfl) (by kernel_rfl) (fun _ _ _ h => h) (Or.inl ⟨by rfl, ?hy0⟩) hSS ?rest0
  case hy0 => ((intro w' hSw; (try dsimp only at hSw)); go_simp <;> with_reducible rfl)
  set_option linter.unusedSimpArgs false in try simp only [Act.put, List.setIfInBounds_toArray, List.set_cons_zero, List.set_cons_succ, List.getElem_toArray, List.getElem_cons_zero, List.getElem_cons_succ]
  refine' wpAnyH_take (i := 1) (oi := _) (v := ?v1) rfl (by kernel_rfl) (by kernel_rfl) (by kernel_rfl) (fun _ _ _ h => h) (Or.inl ⟨by rfl, ?hy1⟩) hSS ?rest1
  case hy1 => ((intro w' hSw; (try dsimp only at hSw)); go_simp <;> with_reducible rfl)
  set_option linter.unusedSimpArgs false in try simp only [Act.put, List.setIfInBounds_toArray, List.set_cons_zero, List.set_cons_succ, List.getElem_toArray, List.getElem_cons_zero, List.getElem_cons_succ]
  refine' wpAnyH_take (i := 2) (oi := _) (v := ?v2) rfl (by kernel_rfl) (by kernel_rfl) (by kernel_rfl) (fun _ _ _ h => h) (Or.inl ⟨by rfl, ?hy2⟩) hSS ?rest2
  case hy2 => ((intro w' hSw; (try dsimp only at hSw)); go_simp <;> with_reducible rfl)
  set_option linter.unusedSimpArgs false in try simp only [Act.put, List.setIfInBounds_toArray, List.set_cons_zero, List.set_cons_succ, List.getElem_toArray, List.getElem_cons_zero, List.getElem_cons_succ]
  refine' wpAnyH_take (i := 3) (oi := _) (v := ?v3) rfl (by kernel_rfl) (by kernel_rfl) (by kernel_rfl) (fun _ _ _ h => h) (Or.inl ⟨by rfl, ?hy3⟩) hSS ?rest3
  case hy3 => ((intro w' hSw; (try dsimp only at hSw)); go_simp <;> with_reducible rfl)
  set_option linter.unusedSimpArgs false in try simp only [Act.put, List.setIfInBounds_toArray, List.set_cons_zero, List.set_cons_succ, List.getElem_toArray, List.getElem_cons_zero, List.getElem_cons_succ]
  refine' wpAnyH_take (i := 4) (oi := _) (v := ?v4) rfl (by kernel_rfl) (by kernel_rfl) (by kernel_rfl) (fun _ _ _ h => h) (Or.inl ⟨by rfl, ?hy4⟩) hSS ?rest4
  case hy4 => ((intro w' hSw; (try dsimp only at hSw)); go_simp <;> with_reducible rfl)
  set_option linter.unusedSimpArgs false in try simp only [Act.put, List.setIfInBounds_toArray, List.set_cons_zero, List.set_cons_succ, List.getElem_toArray, List.getElem_cons_zero, List.getElem_cons_succ]
  refine' wpAnyH_take (i := 5) (oi := _) (v := ?v5) rfl (by kernel_rfl) (by kernel_rfl) (by kernel_rfl) (fun _ _ _ h => h) (Or.inl ⟨by rfl, ?hy5⟩) hSS ?rest5
  case hy5 => ((intro w' hSw; (try dsimp only at hSw)); go_simp <;> with_reducible rfl)
  set_option linter.unusedSimpArgs false in try simp only [Act.put, List.setIfInBounds_toArray, List.set_cons_zero, List.set_cons_succ, List.getElem_toArray, List.getElem_cons_zero, List.getElem_cons_succ]
  refine' wpAnyH_take (i := 6) (oi := _) (v := ?v6) rfl (by kernel_rfl) (by kernel_rfl) (by kernel_rfl) (fun _ _ _ h => h) (Or.inl ⟨by rfl, ?hy6⟩) hSS ?rest6
  case hy6 => ((intro w' hSw; (try dsimp only at hSw)); go_simp <;> with_reducible rfl)
  set_option linter.unusedSimpArgs false in try simp only [Act.put, List.setIfInBounds_toArray, List.set_cons_zero, List.set_cons_succ, List.getElem_toArray, List.getElem_cons_zero, List.getElem_cons_succ]
  refine' wpAnyH_take (i := 7) (oi := _) (v := ?v7) rfl (by kernel_rfl) (by kernel_rfl) (by kernel_rfl) (fun _ _ _ h => h) (Or.inl ⟨by rfl, ?hy7⟩) hSS ?rest7
  case hy7 => ((intro w' hSw; (try dsimp only at hSw)); go_simp <;> with_reducible rfl)
  set_option linter.unusedSimpArgs false in try simp only [Act.put, List.setIfInBounds_toArray, List.set_cons_zero, List.set_cons_succ, List.getElem_toArray, List.getElem_cons_zero, List.getElem_cons_succ]
  refine wpAnyH_ready (rs := [8]) (by kernel_rfl) (by simp) ?_
  refine AllReadyH.cons rfl (fun K hK => ?_) AllReadyH.nil
  go_simp
  refine (dsSyncOff B C2 (nb + 1) a pw (t + (n + 8)) l (u + 1) room (putF F k (dataF F k ++ wrapF bs, keptF F k)) k (dataF F k ++ wrapF bs) (keptF F k) _ (HD2.out.below ((Below.refl _ _).drew)) (by omega) (by omega) hk (putF_same _ _ _)).mono ?_
  rintro e w3 ⟨rfl, hb3⟩
  have hby := ((Below.refl w2.heap.size w2).drew).trans hb3
  have hmw := (Mod.of_below (F := TouchD C pw) HB1.out).trans HM2.out (fun _ _ h => h)
  have hmz := hmw.trans (Mod.of_below (F := TouchD C pw) hby) (fun _ _ h => h)
  refine ⟨rfl, rfl, C2, HD2.out.below hby, fun b hb => ?_, hmz, HD.out.keeps hmz⟩
  rcases HC2.out b hb with h | h
  · exact .inl h
  · exact .inr (by omega)
set_option maxHeartbeats 4000000 in
set_option maxRecDepth 100000 in
theorem logOpen_someL (B nb a pw t kept : Nat) (C : Nat → Prop) (l u room : Int) (F : Files) (k : Txt) (bs : List UInt8) (w : World) (h : DS B w C nb a pw l u room F t) (hnb : nb + 1 ≤ 1000000) (hl : l < 0 ∨ u < l) (hk : k.length ≤ maxLen) (hF : F k = some (bs, kept)) :
    Calls Tryd.prog 31 #[.pointer (some ⟨a, 0, none⟩), .string ⟨k.toArray⟩] w (RetOpen w B C nb a pw l room F k) := by
  have hlt := h.lt
  have hln : bs.length ≤ 1000000 := by
    have h1 := h.tot.one k
    have h2 : lenF F k = bs.length := by simp [lenF, hF]
    have := h.t1
    have := h.r1
    omega
  have hkp := h.kept k bs kept hF
  have hop : openF F k = putF F k (bs.take (splitF bs).2, (splitF bs).2) := by simp [openF, hF]
  have hda : dataF F k = bs := by simp [dataF, hF]
  have hgl := splitF_le bs.length bs (Nat.le_refl _)
  have HD := Lib.hid h
  have HF := Lib.hid hF
  have HOP := Lib.hid hop
  have HDA := Lib.hid hda
  clear h hF hop hda
  obtain ⟨G, hG⟩ : ∃ G, G = (splitF bs).2 := ⟨_, rfl⟩
  obtain ⟨len, hlen⟩ : ∃ len, len = bs.length := ⟨_, rfl⟩
  rw [← hG] at hgl
  rw [← hlen] at hgl hln hkp
  have HG := Lib.hid hG
  have HLEN := Lib.hid hlen
  clear hG hlen
  go_enter Tryd.func31, Tryd.ntmps31
  go_wp2_with (fail)
  have hb1 := (Below.refl w.heap.size w).alloc (Nat.le_refl _) (.cells #[.pointer (some ⟨a, 0, none⟩), .string ⟨k.toArray⟩] 80 (0, 0))
  have hp1 : LogAt (w.alloc (.cells #[.pointer (some ⟨a, 0, none⟩), .string ⟨k.toArray⟩] 80 (0, 0))) w.heap.size a k := heap_alloc_new _ _
  have hs1 : (w.alloc (.cells #[.pointer (some ⟨a, 0, none⟩), .string ⟨k.toArray⟩] 80 (0, 0))).heap.size = w.heap.size + 1 := World.size_alloc _ _
  have HD1 := Lib.hid (HD.out.below hb1)
  generalize w.alloc (.cells #[.pointer (some ⟨a, 0, none⟩), .string ⟨k.toArray⟩] 80 (0, 0)) = w1 at *
  refine (dsRead B C nb a pw t l u room F k bs kept w1 HD1.out hk HF.out).mono ?_
  rintro e w2 ⟨v, A2, c2, rfl, rfl, hrow2, _, hb2⟩
  rw [← HLEN.out] at hrow2 ⊢
  have hc2 : len ≤ c2 := by
    obtain ⟨_, _, e2, h2⟩ := hrow2.form
    injection e2 with _ _ e2
    omega
  have hz2 := hb2.size
  have hp2 := hp1.below hb2
  have HD2 := Lib.hid (HD1.out.below hb2)
  have HB2 := Lib.hid (hb1.trans (hb2.mono (by omega)))
  have HR2 := Lib.hid hrow2.reads
  clear hrow2 hb2 hp1 hb1 HD1
  go_wp2_with (fail)
  refine (splitC A2 len c2 _ bs w2 HR2.out (Nat.le_refl _) (by omega) hc2).mono ?_
  rintro e w3 ⟨v3, rfl, hpc3, hb3⟩
  rw [← HG.out]
  obtain ⟨A3, c3, rfl, _⟩ := hpc3.form
  have hz3 := hb3.size
  have hp3 := hp2.below hb3
  have HD3 := Lib.hid (HD2.out.below hb3)
  have HB3 := Lib.hid (HB2.out.trans (hb3.mono (by omega)))
  have HPC := Lib.hid hpc3
  clear hpc3 hb3 hp2 HD2 HB2
  by_cases hg : G < len
  · have hgd : decide (G < len) = true := decide_eq_true hg
    go_wp2_with (fail)
    refine (dsCut B C nb a pw t G l u room F k bs kept w3 HD3.out (by omega) hl hk HF.out (by rw [← HLEN.out]; omega)).mono ?_
    rintro e w4 ⟨rfl, C4, hd4, hc4, hm4, hb4⟩
    have HD4 := Lib.hid hd4
    have HC4 := Lib.hid hc4
    have HM4 := Lib.hid hm4
    clear hd4 hc4 hm4 hb4
    go_wp2_with (fail)
    refine bodyPost_ret (v := .tuple #[.pointer (some ⟨w.heap.size, 0, none⟩), .slice A3 (splitF bs).1.length c3, .int .i64 0]) (by simp [results, Tryd.results31, go_sem, *]) rfl ?_
    have hpt : ∀ g, w.heap.size ≤ g → ¬ TouchD C pw g := fun g hg h => Nat.not_lt.2 hg (hlt g h)
    refine ⟨_, _, C4, u + 1, _, rfl, by rw [HOP.out, ← HG.out]; exact HD4.out, fun b hb => ?_, (Mod.of_below HB3.out).trans HM4.out (fun _ _ h => h), hp3.mod HM4.out (hpt _ (Nat.le_refl _)), Nat.le_refl _, fun h => ?_, ?_⟩
    · rcases HC4.out b hb with h | h
      · exact .inl h
      · exact .inr (by omega)
    · rcases HC4.out _ h with h | h
      · exact hpt _ (Nat.le_refl _) (.inl h)
      · omega
    · rw [HDA.out]
      exact (HPC.out.mod HM4.out (fun g hg => hpt g (by omega))).lower (by omega)
  · have hgd : decide (G < len) = false := decide_eq_false hg
    go_wp2_with (fail)
    refine (dsKept B C nb a pw t l u room F k w3 HD3.out hk).mono ?_
    rintro e w4 ⟨rfl, rfl⟩
    have hkf : keptF F k = kept := by simp [keptF, HF.out]
    rw [hkf]
    clear hkf
    by_cases hkg : kept < G
    · have hkd : decide (kept < G) = true := decide_eq_true hkg
      go_wp2_with (fail)
      refine (dsCut B C nb a pw t G l u room F k bs kept w4 HD3.out (by omega) hl hk HF.out (by rw [← HLEN.out]; omega)).mono ?_
      rintro e w5 ⟨rfl, C4, hd4, hc4, hm4, hb4⟩
      have HD4 := Lib.hid hd4
      have HC4 := Lib.hid hc4
      have HM4 := Lib.hid hm4
      clear hd4 hc4 hm4 hb4
      go_wp2_with (fail)
      refine bodyPost_ret (v := .tuple #[.pointer (some ⟨w.heap.size, 0, none⟩), .slice A3 (splitF bs).1.length c3, .int .i64 0]) (by simp [results, Tryd.results31, go_sem, *]) rfl ?_
      have hpt : ∀ g, w.heap.size ≤ g → ¬ TouchD C pw g := fun g hg h => Nat.not_lt.2 hg (hlt g h)
      refine ⟨_, _, C4, u + 1, _, rfl, by rw [HOP.out, ← HG.out]; exact HD4.out, fun b hb => ?_, (Mod.of_below HB3.out).trans HM4.out (fun _ _ h => h), hp3.mod HM4.out (hpt _ (Nat.le_refl _)), Nat.le_refl _, fun h => ?_, ?_⟩
      · rcases HC4.out b hb with h | h
        · exact .inl h
        · exact .inr (by omega)
      · rcases HC4.out _ h with h | h
        · exact hpt _ (Nat.le_refl _) (.inl h)
        · omega
      · rw [HDA.out]
        exact (HPC.out.mod HM4.out (fun g hg => hpt g (by omega))).lower (by omega)
    · have hkd : decide (kept < G) = false := decide_eq_false hkg
      go_wp2_with (fail)
      refine bodyPost_ret (v := .tuple #[.pointer (some ⟨w.heap.size, 0, none⟩), .slice A3 (splitF bs).1.length c3, .int .i64 0]) (by simp [results, Tryd.results31, go_sem, *]) rfl ?_
      have hsame : openF F k = F := by
        rw [HOP.out, ← HG.out, List.take_of_length_le (by rw [← HLEN.out]; omega)]
        funext z
        unfold putF
        split
        · rename_i hz
          rw [hz, HF.out, show kept = G by omega]
        · rfl
      refine ⟨_, _, C, u, t, rfl, by rw [hsame]; exact HD3.out.more (by omega) hnb, fun b hb => .inl hb, Mod.of_below HB3.out, hp3, Nat.le_refl _, fun h => ?_, ?_⟩
      · have := hlt _ (.inl h)
        omega
      · rw [HDA.out]
        exact HPC.out.lower (by omega)

set_option maxHeartbeats 4000000 in
set_option maxRecDepth 100000 in
theorem logOpen_off (B nb a pw t kept : Nat) (C : Nat → Prop) (l u room : Int) (F : Files) (k : Txt) (bs : List UInt8) (w : World) (h : DS B w C nb a pw l u room F t) (hnb : nb + 1 ≤ 1000000) (hl : 0 ≤ l) (hlu : l ≤ u) (hk : k.length ≤ maxLen) (hF : F k = some (bs, kept)) :
    Calls Tryd.prog 31 #[.pointer (some ⟨a, 0, none⟩), .string ⟨k.toArray⟩] w fun e w' => RetOpen w B C nb a pw l room F k e w' ∨ (e = .panicked [{ v := offV, recovered := false }] ∧ Below w.heap.size w w') := by
  have hlt := h.lt
  have hln : bs.length ≤ 1000000 := by
    have h1 := h.tot.one k
    have h2 : lenF F k = bs.length := by simp [lenF, hF]
    have := h.t1
    have := h.r1
    omega
  have hkp := h.kept k bs kept hF
  have hop : openF F k = putF F k (bs.take (splitF bs).2, (splitF bs).2) := by simp [openF, hF]
  have hda : dataF F k = bs := by simp [dataF, hF]
  have hgl := splitF_le bs.length bs (Nat.le_refl _)
  have HD := Lib.hid h
  have HF := Lib.hid hF
  have HOP := Lib.hid hop
  have HDA := Lib.hid hda
  clear h hF hop hda
  obtain ⟨G, hG⟩ : ∃ G, G = (splitF bs).2 := ⟨_, rfl⟩
  obtain ⟨len, hlen⟩ : ∃ len, len = bs.length := ⟨_, rfl⟩
  rw [← hG] at hgl
  rw [← hlen] at hgl hln hkp
  have HG := Lib.hid hG
  have HLEN := Lib.hid hlen
  clear hG hlen
  go_enter Tryd.func31, Tryd.ntmps31
  go_wp2_with (fail)
  have hb1 := (Below.refl w.heap.size w).alloc (Nat.le_refl _) (.cells #[.pointer (some ⟨a, 0, none⟩), .string ⟨k.toArray⟩] 80 (0, 0))
  have hp1 : LogAt (w.alloc (.cells #[.pointer (some ⟨a, 0, none⟩), .string ⟨k.toArray⟩] 80 (0, 0))) w.heap.size a k := heap_alloc_new _ _
  have hs1 : (w.alloc (.cells #[.pointer (some ⟨a, 0, none⟩), .string ⟨k.toArray⟩] 80 (0, 0))).heap.size = w.heap.size + 1 := World.size_alloc _ _
  have HD1 := Lib.hid (HD.out.below hb1)
  generalize w.alloc (.cells #[.pointer (some ⟨a, 0, none⟩), .string ⟨k.toArray⟩] 80 (0, 0)) = w1 at *
  refine (dsRead B C nb a pw t l u room F k bs kept w1 HD1.out hk HF.out).mono ?_
  rintro e w2 ⟨v, A2, c2, rfl, rfl, hrow2, _, hb2⟩
  rw [← HLEN.out] at hrow2 ⊢
  have hc2 : len ≤ c2 := by
    obtain ⟨_, _, e2, h2⟩ := hrow2.form
    injection e2 with _ _ e2
    omega
  have hz2 := hb2.size
  have hp2 := hp1.below hb2
  have HD2 := Lib.hid (HD1.out.below hb2)
  have HB2 := Lib.hid (hb1.trans (hb2.mono (by omega)))
  have HR2 := Lib.hid hrow2.reads
  clear hrow2 hb2 hp1 hb1 HD1
  go_wp2_with (fail)
  refine (splitC A2 len c2 _ bs w2 HR2.out (Nat.le_refl _) (by omega) hc2).mono ?_
  rintro e w3 ⟨v3, rfl, hpc3, hb3⟩
  rw [← HG.out]
  obtain ⟨A3, c3, rfl, _⟩ := hpc3.form
  have hz3 := hb3.size
  have hp3 := hp2.below hb3
  have HD3 := Lib.hid (HD2.out.below hb3)
  have HB3 := Lib.hid (HB2.out.trans (hb3.mono (by omega)))
  have HPC := Lib.hid hpc3
  clear hpc3 hb3 hp2 HD2 HB2
  by_cases hg : G < len
  · have hgd : decide (G < len) = true := decide_eq_true hg
    go_wp2_with (fail)
    refine (dsCutOff B C nb a pw t G l u room F k bs kept w3 HD3.out hl hlu hk HF.out (by rw [← HLEN.out]; omega)).mono ?_
    rintro e w4 ⟨rfl, hb4⟩
    go_wp2_with (fail)
    exact ⟨rfl, .inr ⟨rfl, HB3.out.trans (hb4.mono (by omega))⟩⟩
  · have hgd : decide (G < len) = false := decide_eq_false hg
    go_wp2_with (fail)
    refine (dsKept B C nb a pw t l u room F k w3 HD3.out hk).mono ?_
    rintro e w4 ⟨rfl, rfl⟩
    have hkf : keptF F k = kept := by simp [keptF, HF.out]
    rw [hkf]
    clear hkf
    by_cases hkg : kept < G
    · have hkd : decide (kept < G) = true := decide_eq_true hkg
      go_wp2_with (fail)
      refine (dsCutOff B C nb a pw t G l u room F k bs kept w4 HD3.out hl hlu hk HF.out (by rw [← HLEN.out]; omega)).mono ?_
      rintro e w5 ⟨rfl, hb5⟩
      go_wp2_with (fail)
      exact ⟨rfl, .inr ⟨rfl, HB3.out.trans (hb5.mono (by omega))⟩⟩
    · have hkd : decide (kept < G) = false := decide_eq_false hkg
      go_wp2_with (fail)
      refine bodyPost_ret (v := .tuple #[.pointer (some ⟨w.heap.size, 0, none⟩), .slice A3 (splitF bs).1.length c3, .int .i64 0]) (by simp [results, Tryd.results31, go_sem, *]) rfl ?_
      have hsame : openF F k = F := by
        rw [HOP.out, ← HG.out, List.take_of_length_le (by rw [← HLEN.out]; omega)]
        funext z
        unfold putF
        split
        · rename_i hz
          rw [hz, HF.out, show kept = G by omega]
        · rfl
      refine .inl ⟨_, _, C, u, t, rfl, by rw [hsame]; exact HD3.out.more (by omega) hnb, fun b hb => .inl hb, Mod.of_below HB3.out, hp3, Nat.le_refl _, fun h => ?_, ?_⟩
      · have := hlt _ (.inl h)
        omega
      · rw [HDA.out]
        exact HPC.out.lower (by omega)


/-- d pieces are kept whole; of the next one perhaps something is there. -/
def CutInv (ps : List (List UInt8)) (F : Files) (k : FName) (d : Nat) : Prop :=
  (F k = none ∧ d = 0) ∨ ∃ m kp, F k = some ((rowsF ps).take m, kp) ∧ (rowsF (ps.take d)).length ≤ kp ∧ kp ≤ m ∧ m ≤ (rowsF (ps.take (d + 1))).length
theorem rowsF_mono (ps : List (List UInt8)) {i j : Nat} (h : i ≤ j) : (rowsF (ps.take i)).length ≤ (rowsF (ps.take j)).length := by
  obtain ⟨e, rfl⟩ : ∃ e, j = i + e := ⟨j - i, by omega⟩
  rw [List.take_add, rowsF_append, List.length_append]
  omega
theorem rowsF_pre (ps : List (List UInt8)) (d : Nat) : (rowsF ps).take (rowsF (ps.take d)).length = rowsF (ps.take d) := by
  have h : rowsF ps = rowsF (ps.take d) ++ rowsF (ps.drop d) := by rw [← rowsF_append, List.take_append_drop]
  rw [h, List.take_left']
  rfl
theorem CutInv.start {ps : List (List UInt8)} {F : Files} {k : FName} (h : F k = none) : CutInv ps F k 0 := .inl ⟨h, rfl⟩
theorem CutInv.done {ps : List (List UInt8)} {F : Files} {k : FName} {d : Nat} (h : LogHas F k (ps.take d)) (hd : d ≤ ps.length) : CutInv ps F k d := by
  rcases h with ⟨h, h2⟩ | h
  · refine .inl ⟨h, ?_⟩
    have := congrArg List.length h2
    rw [List.length_take, List.length_nil] at this
    omega
  · refine .inr ⟨(rowsF (ps.take d)).length, (rowsF (ps.take d)).length, ?_, Nat.le_refl _, Nat.le_refl _, rowsF_mono ps (by omega)⟩
    rw [rowsF_pre, h]
theorem CutInv.half {ps : List (List UInt8)} {F : Files} {k : FName} {d : Nat} {q : List UInt8} (h : LogHas F k (ps.take d)) (hq : ps[d]? = some q) : CutInv ps (putF F k (dataF F k ++ wrapF q, keptF F k)) k d := by
  refine .inr ⟨(rowsF (ps.take (d + 1))).length, (rowsF (ps.take d)).length, ?_, Nat.le_refl _, rowsF_mono ps (by omega), Nat.le_refl _⟩
  rw [putF_same, rowsF_pre, h.data, rowsF_take hq]
  have hk : keptF F k = (rowsF (ps.take d)).length := by
    rcases h with ⟨h, h2⟩ | h
    · rw [h2]; simp [keptF, h, rowsF]
    · simp [keptF, h]
  rw [hk]
theorem crash1_len (b : Nat) (k : Txt) (bs : List UInt8) (kept : Nat) (h : kept ≤ bs.length) : ∃ m, kept ≤ m ∧ m ≤ bs.length ∧ crash1 (chB b) k (bs, kept) = (bs.take m, m) := by
  refine ⟨kept + chB b k (bs.length - kept) % (bs.length - kept + 1), by omega, ?_, rfl⟩
  have := Nat.mod_lt (chB b k (bs.length - kept)) (show 0 < bs.length - kept + 1 by omega)
  omega
theorem CutInv.crash {ps : List (List UInt8)} {F : Files} {k : FName} {d : Nat} (h : CutInv ps F k d) (hk : KeptOk F) (b : Nat) : CutInv ps (crashF F (chB b)) k d := by
  rcases h with ⟨h, h2⟩ | ⟨m, kp, h, h1, h2, h3⟩
  · exact .inl ⟨by simp [crashF, h], h2⟩
  · have hkl := hk k _ kp h
    obtain ⟨m', g1, g2, g3⟩ := crash1_len b k ((rowsF ps).take m) kp hkl
    have hm : m' ≤ m := by rw [List.length_take] at g2; omega
    refine .inr ⟨m', m', ?_, by omega, Nat.le_refl _, by omega⟩
    simp only [crashF, h, Option.map_some, g3, List.take_take, Nat.min_eq_left hm]
theorem CutInv.open_ {ps : List (List UInt8)} {F : Files} {k : FName} {d : Nat} (h : CutInv ps F k d) (hp : ∀ p ∈ ps, p.length < 2 ^ 32) (hd : d ≤ ps.length) :
    CutInv ps (openF F k) k d ∧ ∃ N, N ≤ ps.length ∧ d ≤ N ∧ N ≤ d + 1 ∧ (splitF (dataF F k)).1 = ps.take N ∧ LogHas (openF F k) k (ps.take N) := by
  rcases h with ⟨h, rfl⟩ | ⟨m, kp, h, h1, h2, h3⟩
  · have e1 : openF F k = F := by simp [openF, h]
    have e2 : dataF F k = [] := by simp [dataF, h]
    rw [e1, e2, splitF_none (by decide)]
    exact ⟨.start h, 0, Nat.zero_le _, Nat.le_refl _, by omega, rfl, .inl ⟨h, rfl⟩⟩
  · obtain ⟨N, g1, g2, g3⟩ := splitF_cut ps m hp
    have hN1 : d ≤ N := by
      rcases Nat.eq_zero_or_pos d with h0 | h0
      · omega
      · have := (g3 (d - 1) (by omega)).1 (by rw [show d - 1 + 1 = d by omega]; omega)
        omega
    have hN2 : N ≤ d + 1 := by
      by_cases hc : N ≤ d + 1
      · exact hc
      · have h4 := (g3 (d + 1) (by omega)).2 (by omega)
        obtain ⟨q, hq⟩ : ∃ q, ps[d + 1]? = some q := ⟨ps[d + 1]'(by omega), List.getElem?_eq_getElem _⟩
        rw [rowsF_take hq, List.length_append, wrapF_len] at h4
        omega
    have hda : dataF F k = (rowsF ps).take m := by simp [dataF, h]
    have htk := splitF_take _ ((rowsF ps).take m) (Nat.le_refl _)
    rw [g2] at htk
    simp only at htk
    have hop : openF F k = putF F k (rowsF (ps.take N), (rowsF (ps.take N)).length) := by
      simp only [openF, h, g2]
      rw [htk]
    have hlh : LogHas (openF F k) k (ps.take N) := .inr (by rw [hop, putF_same])
    refine ⟨.inr ⟨(rowsF (ps.take N)).length, (rowsF (ps.take N)).length, by rw [hop, putF_same, rowsF_pre], rowsF_mono ps hN1, Nat.le_refl _, rowsF_mono ps hN2⟩, N, g1, hN1, hN2, by rw [hda, g2], hlh⟩
/-- Opened, a disk has no more bytes. -/
theorem total_open {F : Files} {k : FName} {t t' : Nat} (h : Total F t) (h' : Total (openF F k) t') : t' ≤ t := by
  cases hF : F k with
  | none =>
    have e : openF F k = F := by simp [openF, hF]
    rw [e] at h'
    exact Nat.le_of_eq (h'.unique h)
  | some x =>
    have e : openF F k = putF F k (x.1.take (splitF x.1).2, (splitF x.1).2) := by simp [openF, hF]
    rw [e] at h'
    have h1 := h.put k (x.1.take (splitF x.1).2, (splitF x.1).2)
    have h2 := h'.unique h1
    have h3 := h.one k
    have h4 : lenF F k = x.1.length := by simp [lenF, hF]
    rw [h2]
    simp only [List.length_take]
    omega

set_option maxRecDepth 100000 in
/-- Run, whether what is done comes back, or the power goes in it. -/
theorem run_any (G : Nat) (first cap : Array Value) (w : World) (R : Bool → World → Prop) (eg : ∀ args w, (callFunc G args).run Tryd.prog w = .ok (.enter G args) w)
    (hf : Calls Tryd.prog G (first ++ cap) (w.alloc (.cells #[.bool false] 4)) fun e w2 => ∃ b : Bool, e = (if b then .returned (.tuple #[]) else .panicked [{ v := offV, recovered := false }]) ∧ w2.cell? ⟨w.heap.size, 0, none⟩ = some (.bool false) ∧ w2.frozen? ⟨w.heap.size, 0, none⟩ = false ∧ R b w2) :
    Calls Tryd.prog 38 #[.func (.func G) first cap] w fun e w' => ∃ b : Bool, e = .returned (.bool b) ∧ ∃ w2, R b w2 ∧ Mod (fun g => g = w.heap.size) w2 w' := by
  have hmf : ∀ (fn : Fn) (first cap : Array Value) (w : World), (Instr.makeFunc fn first cap).run Tryd.prog w = .ok (.func fn first cap) w := fun _ _ _ _ => rfl
  go_enter_defers Tryd.func38, Tryd.ntmps38
  go_wp2_with (fail)
  refine hf.mono ?_
  rintro e w2 ⟨b, he, hc, hz, hR⟩
  cases b
  · rw [if_neg (by decide)] at he
    subst he
    go_wp2_with (fail)
    refine leaves_cons (f := 56) (args := #[.pointer (some ⟨w.heap.size, 0, none⟩)]) (by simp) (by simp [go_sem]) ?_
    have hlt := World.block_lt_of_cell? _ _ hc
    refine (catch_off w.heap.size _ [] w2 hlt hc hz).mono ?_
    rintro e u' w'' ⟨rfl, rfl, rfl⟩
    have hc' : ((w2.setCell ⟨w.heap.size, 0, none⟩ (.bool false)).alloc (.cells #[] 92)).cell? ⟨w.heap.size, 0, none⟩ = some (.bool false) := calloc (by go_simp) _
    simp [Leaves, settle, results, Tryd.results38, go_sem, hc']
    exact ⟨w2, hR, (Mod.setCell (F := fun g => g = w.heap.size) (Mod.refl _ w2) (fun _ => rfl) _).alloc _⟩
  · rw [if_pos rfl] at he
    subst he
    go_wp2_with (fail)
    refine leaves_cons (f := 56) (args := #[.pointer (some ⟨w.heap.size, 0, none⟩)]) (by simp) (by simp [go_sem]) ?_
    refine (catch_idle w.heap.size _).mono ?_
    rintro e u' w'' ⟨rfl, rfl, rfl⟩
    have hc' : (w2.setCell ⟨w.heap.size, 0, none⟩ (.bool true)).cell? ⟨w.heap.size, 0, none⟩ = some (.bool true) := by go_simp
    simp [Leaves, settle, results, Tryd.results38, go_sem, hc']
    exact ⟨w2, hR, Mod.setCell (F := fun g => g = w.heap.size) (Mod.refl _ w2) (fun _ => rfl) _⟩
/-- The appends, as far as the power stays. -/
def CutEnd (B : Nat) (ps : List (List UInt8)) (vd a pw n : Nat) (C : Nat → Prop) (l room : Int) (k : Txt) (W : World) (e : Ending) (w' : World) : Prop :=
  ∃ b : Bool, e = (if b then .returned (.tuple #[]) else .panicked [{ v := offV, recovered := false }]) ∧ ∃ d C' u' F' t', d ≤ n ∧ DS B w' C' (2 * n) a pw l u' room F' t' ∧ t' ≤ 48 * n ∧ CutInv ps F' k d ∧ w'.heap[vd]? = some (.cells #[.int .i64 (d : Nat)] 3 (0, 0)) ∧ (∀ g, C' g → C g ∨ W.heap.size ≤ g) ∧ Mod (fun g => TouchD C pw g ∨ g = vd) W w'
set_option maxHeartbeats 8000000 in
set_option maxRecDepth 100000 in
theorem clo1 (B vl vw vd n c a pw p B' : Nat) (A : Option Addr) (L : BL) (C : Nat → Prop) (l : Int) (k : Txt) (F : Files) (w : World) (hr : RowsAt w B' A n L) (hB' : B' ≤ w.heap.size) (hn : n ≤ 12) (h40 : ∀ x ∈ L, x.2.1 ≤ 40) (hd : DS B w C 0 a pw l 0 2000 F 0) (hF : F k = none) (hk : k.length ≤ maxLen) (hl : 0 ≤ l) (hp : LogAt w p a k) (hpc : ¬ C p) (hpp : p ≠ pw)
    (hvl : w.cell? ⟨vl, 0, none⟩ = some (.slice A n c)) (hvw : w.heap[vw]? = some (.cells #[.pointer (some ⟨p, 0, none⟩)] 46 (0, 0))) (hvd : w.heap[vd]? = some (.cells #[.int .i64 0] 3 (0, 0))) (hcw : ¬ C vw) (hcd : ¬ C vd) (hpwd : vd ≠ pw) (hpww : vw ≠ pw) (hdw : vd ≠ vw) (hdp : vd ≠ p) (hBv : B' ≤ vd) (hBB : B' ≤ B) :
    Calls Tryd.prog 39 #[.pointer (some ⟨vl, 0, none⟩), .pointer (some ⟨vw, 0, none⟩), .pointer (some ⟨vd, 0, none⟩)] w (CutEnd B (bytesOf L) vd a pw n C l 2000 k w) := by
  have hll := hr.len
  have HR := Lib.hid hr
  have HL := Lib.hid hll
  have H40 := Lib.hid h40
  have HD := Lib.hid hd
  have HF := Lib.hid hF
  have HP := Lib.hid hp
  have HVW := Lib.hid hvw
  have HVD := Lib.hid hvd
  clear hr hll h40 hd hF hp hvw hvd
  go_enter Tryd.func39, Tryd.ntmps39
  go_wp2_with (fail)
  go_loopw [7] (fun i wr => ∃ (j : Nat) (C' : Nat → Prop) (F' : Files) (t' : Nat), j ≤ n ∧ i = .int .i64 j ∧ t' ≤ 48 * j ∧ Hid (DS B wr C' (2 * j) a pw l (2 * j : Nat) 2000 F' t') ∧ Hid (LogHas F' k ((bytesOf L).take j)) ∧ Hid (LogAt wr p a k) ∧ Hid (¬ C' p ∧ ¬ C' vw ∧ ¬ C' vd) ∧ Hid (wr.heap[vw]? = some (.cells #[.pointer (some ⟨p, 0, none⟩)] 46 (0, 0))) ∧ Hid (wr.heap[vd]? = some (.cells #[.int .i64 (j : Nat)] 3 (0, 0))) ∧ Hid (∀ g, C' g → C g ∨ w.heap.size ≤ g) ∧ Hid (Mod (fun g => TouchD C pw g ∨ g = vd) w wr)) (fun i _ => n - (intOf i).toNat)
  case atStart => exact ⟨0, C, F, 0, Nat.zero_le _, rfl, Nat.le_refl _, HD, Lib.hid (.nil HF.out), HP, Lib.hid ⟨hpc, hcw, hcd⟩, HVW, HVD, Lib.hid (fun g h => .inl h), Lib.hid (Mod.refl _ _)⟩
  case round =>
    obtain ⟨j, C', F', t', hj, rfl, htj, HDR, HHR, HPR, HPC, HW, HV, HC, HM⟩ := hrel
    obtain ⟨wo, rfl⟩ : ∃ wo : World, wo = wr := ⟨_, rfl⟩
    have hzm := HM.out.size
    by_cases hlt : j < n
    · obtain ⟨x, hx⟩ : ∃ x, L[j]? = some x := ⟨L[j]'(by rw [HL.out]; exact hlt), List.getElem?_eq_getElem _⟩
      obtain ⟨ad, rfl, had, hc⟩ := HR.out.1.2 (by omega)
      have hbl : Below B' w wo := HM.out.below hB' (fun g hg h => by
        rcases h with (h | h) | h
        · have := HD.out.base g h; omega
        · have := HD.out.pbase; omega
        · omega)
      have d0 : wo.cell? (ad.add j) = some (.slice x.1 x.2.1 x.2.2.1) := cellk hbl (by rw [block_of_add]; exact had) (hc j (slV x) (by rw [List.getElem?_map, hx]; rfl))
      have h40 := H40.out x (List.mem_of_getElem? hx)
      have R0 := Lib.hid ((HR.out.2 x (List.mem_of_getElem? hx)).below hbl)
      have HPS := Lib.hid (show (bytesOf L)[j]? = some x.2.2.2 from bytesOf_get hx)
      obtain ⟨a1, n1, c1, q⟩ := x
      simp only at d0 R0 h40 HPS
      have hin0 : (0 : Int) ≤ (j : Int) := by omega
      have hin1 : (j : Int) < (n : Int) := by omega
      have hvw : wo.cell? ⟨vw, 0, none⟩ = some (.pointer (some ⟨p, 0, none⟩)) := by rw [cell_of_blk HW.out]; rfl
      clear hx hc hbl
      go_wp2_with (fail)
      by_cases hon : (2 * j : Nat) + 2 ≤ l
      · refine (logAppendOn B (2 * j) a pw t' p B' C' l (2 * j : Nat) 2000 F' k q a1 n1 c1 wo HDR.out HPR.out HPC.out.1 hpp (by omega) (.inr (by omega)) hk R0.out (by omega) (by omega) (by omega)).mono ?_
        rintro e w5 ⟨rfl, C5, hd5, hc5, hm5, hb5⟩
        have hz5 := hm5.size
        have hpl := lt_of_heap HPR.out
        have hvwl := lt_of_heap HW.out
        have hvdl := lt_of_heap HV.out
        have hn5 : ∀ g, g < wo.heap.size → ¬ C' g → ¬ C5 g := fun g hg hn h => by
          rcases hc5 g h with h | h
          · exact hn h
          · omega
        have HPC5 := Lib.hid (show ¬ C5 p ∧ ¬ C5 vw ∧ ¬ C5 vd from ⟨hn5 p hpl HPC.out.1, hn5 vw hvwl HPC.out.2.1, hn5 vd hvdl HPC.out.2.2⟩)
        have HP5 := Lib.hid (HPR.out.mod hm5 (fun h => h.elim HPC.out.1 hpp))
        have HW5 := Lib.hid (hm5.blk HW.out (fun h => h.elim HPC.out.2.1 hpww))
        have HV5 := Lib.hid (hm5.blk HV.out (fun h => h.elim HPC.out.2.2 hpwd))
        have HD5 := Lib.hid hd5
        have HH5 := Lib.hid (HHR.out.app q)
        have HC5 := Lib.hid (show ∀ g, C5 g → C g ∨ w.heap.size ≤ g from fun g hg => by
          rcases hc5 g hg with h | h
          · exact HC.out g h
          · exact .inr (by omega))
        have HM5 := Lib.hid (HM.out.trans hm5 (fun g hg h => by
          rcases h with h | h
          · rcases HC.out g h with h | h
            · exact .inl (.inl h)
            · omega
          · exact .inl (.inr h)))
        clear hd5 hc5 hm5 hb5 hn5
        have hvd : w5.cell? ⟨vd, 0, none⟩ = some (.int .i64 (j : Nat)) := by rw [cell_of_blk HV5.out]; rfl
        have hfd := frozen_of_blk HV5.out 0
        go_wp2_with (fail)
        have hm8 : Mod (fun b => b = vd) w5 (w5.setCell ⟨vd, 0, none⟩ (.int .i64 ((j : Int) + 1))) := Mod.setCell (F := fun b => b = vd) (Mod.refl _ w5) (fun _ => rfl) _
        have hv9 : (w5.setCell ⟨vd, 0, none⟩ (.int .i64 ((j : Int) + 1))).heap[vd]? = some (.cells #[.int .i64 ((j + 1 : Nat) : Int)] 3 (0, 0)) := by
          rw [show ((j + 1 : Nat) : Int) = (j : Int) + 1 by push_cast; rfl]
          exact blk_set HV5.out 0 _
        have hbt : (bytesOf L).take (j + 1) = (bytesOf L).take j ++ [q] := by rw [List.take_add_one, HPS.out]; rfl
        exact ⟨⟨j + 1, C5, _, _, by omega, by go_num, by omega, Lib.hid (HD5.out.mod hm8 (fun b hb e => HPC5.out.2.2 (e ▸ hb)) (fun e => hpwd e.symm)), Lib.hid (by rw [hbt]; exact HH5.out), Lib.hid (HP5.out.mod hm8 (fun e => hdp e.symm)), HPC5, Lib.hid (hm8.blk HW5.out (fun e => hdw e.symm)), Lib.hid hv9, HC5, Lib.hid (HM5.out.trans hm8 (fun g _ h => .inr h))⟩, by simp [intOf]; omega⟩
      · by_cases hoff : l ≤ (2 * j : Nat)
        · refine (logAppendOff1 B (2 * j) a pw t' p B' C' l (2 * j : Nat) 2000 F' k q a1 n1 c1 wo HDR.out HPR.out R0.out (by omega) (by omega) (by omega) hl (by omega)).mono ?_
          rintro e w5 ⟨rfl, hb5⟩
          have hz5 := hb5.size
          have hln : j ≤ (bytesOf L).length := by simp [bytesOf, HL.out]; omega
          have hbb : Below w.heap.size wo w5 := hb5.mono (by omega)
          go_wp2_with (fail)
          exact ⟨rfl, false, rfl, j, C', (2 * j : Nat), F', t', by omega, (HDR.out.below hb5).more (by omega) (by omega), by omega, .done HHR.out hln, (hb5.block _ (lt_of_heap HV.out)).trans HV.out, HC.out, HM.out.trans (Mod.of_below (F := fun _ => False) hb5) (fun _ _ h => h.elim)⟩
        · refine (logAppendOff2 B (2 * j) a pw t' p B' C' l (2 * j : Nat) 2000 F' k q a1 n1 c1 wo HDR.out HPR.out HPC.out.1 hpp (by omega) (by omega) (by omega) hk R0.out (by omega) (by omega) (by omega)).mono ?_
          rintro e w5 ⟨rfl, C5, hd5, hc5, hm5, hb5⟩
          go_wp2_with (fail)
          refine ⟨rfl, false, rfl, j, C5, _, _, _, by omega, hd5.more (by omega) (by omega), by omega, .half HHR.out HPS.out, hm5.blk HV.out (fun h => h.elim HPC.out.2.2 hpwd), fun g hg => ?_, HM.out.trans hm5 (fun g hg h => ?_)⟩
          · rcases hc5 g hg with h | h
            · exact HC.out g h
            · exact .inr (by omega)
          · rcases h with h | h
            · rcases HC.out g h with h | h
              · exact .inl (.inl h)
              · omega
            · exact .inl (.inr h)
    · obtain rfl : j = n := by omega
      have htk : (bytesOf L).take j = bytesOf L := List.take_of_length_le (by simp [bytesOf, HL.out])
      have hln : j ≤ (bytesOf L).length := by simp [bytesOf, HL.out]
      go_wp2_with (fail)
      go_end0
      exact ⟨true, rfl, j, C', (2 * j : Nat), F', t', Nat.le_refl _, HDR.out, htj, .done HHR.out hln, HV.out, HC.out, HM.out⟩
/-- An opening, as far as the power stays. -/
def CutOpen (B : Nat) (ps : List (List UInt8)) (d nb a pw t : Nat) (C : Nat → Prop) (l room : Int) (k : Txt) (W : World) (e : Ending) (w' : World) : Prop :=
  ∃ b : Bool, e = (if b then .returned (.tuple #[]) else .panicked [{ v := offV, recovered := false }]) ∧ ∃ C' u' F' t', DS B w' C' (nb + 1) a pw l u' room F' t' ∧ t' ≤ t ∧ CutInv ps F' k d ∧ (∀ g, C' g → C g ∨ W.heap.size ≤ g) ∧ Mod (TouchD C pw) W w'
theorem cutOpen_ret {B : Nat} {ps : List (List UInt8)} {d nb a pw t : Nat} {C : Nat → Prop} {l room : Int} {k : Txt} {F : Files} {w w' : World} {e : Ending} (h : RetOpen w B C nb a pw l room F k e w') (ht : Total F t) (hi : CutInv ps F k d) (hp : ∀ p ∈ ps, p.length < 2 ^ 32) (hd : d ≤ ps.length) :
    ∃ v, e = .returned v ∧ ∃ C' u' F' t', DS B w' C' (nb + 1) a pw l u' room F' t' ∧ t' ≤ t ∧ CutInv ps F' k d ∧ (∀ g, C' g → C g ∨ w.heap.size ≤ g) ∧ Mod (TouchD C pw) w w' := by
  obtain ⟨p, v, C', u', t', rfl, h1, h2, h3, _, _, _, _⟩ := h
  exact ⟨_, rfl, C', u', _, t', h1, total_open ht h1.tot, (hi.open_ hp hd).1, h2, h3⟩
set_option maxHeartbeats 4000000 in
set_option maxRecDepth 100000 in
theorem clo2 (B vb nb a pw t d : Nat) (C : Nat → Prop) (l u room : Int) (F : Files) (ps : List (List UInt8)) (w : World) (hd : DS B w C nb a pw l u room F t) (hnb : nb + 1 ≤ 1000000) (hl : 0 ≤ l) (hi : CutInv ps F [108, 111, 103] d) (hp : ∀ p ∈ ps, p.length < 2 ^ 32) (hdl : d ≤ ps.length) (hv : w.cell? ⟨vb, 0, none⟩ = some (.pointer (some ⟨a, 0, none⟩))) :
    Calls Tryd.prog 42 #[.pointer (some ⟨vb, 0, none⟩)] w (CutOpen B ps d nb a pw t C l room [108, 111, 103] w) := by
  have hT := Lib.hid hd.tot
  have HI := Lib.hid hi
  have HP := Lib.hid hp
  by_cases hc : F [108, 111, 103] = none ∨ u < l
  · have hO : Calls Tryd.prog 31 #[.pointer (some ⟨a, 0, none⟩), .string ⟨[108, 111, 103].toArray⟩] w (RetOpen w B C nb a pw l room F [108, 111, 103]) := by
      cases hF : F [108, 111, 103] with
      | none => exact logOpen_none B nb a pw t C l u room F [108, 111, 103] w hd hnb (by decide) hF
      | some x =>
        rcases hc with hc | hc
        · rw [hF] at hc; cases hc
        · exact logOpen_someL B nb a pw t x.2 C l u room F [108, 111, 103] x.1 w hd hnb (.inr hc) (by decide) hF
    have HO := Lib.hid hO
    clear hO hd hi hp
    go_enter Tryd.func42, Tryd.ntmps42
    go_wp2_with (fail)
    refine HO.out.mono ?_
    rintro e w' h
    obtain ⟨v, rfl, C', u', F', t', h1, h2, h3, h4, h5⟩ := cutOpen_ret h hT.out HI.out HP.out hdl
    have H := Lib.hid (show CutOpen B ps d nb a pw t C l room [108, 111, 103] w (.returned (.tuple #[])) w' from ⟨true, rfl, C', u', F', t', h1, h2, h3, h4, h5⟩)
    clear h h1 h2 h3 h4 h5
    go_wp2_with (fail)
    go_end0
    exact H.out
  · have hlu : l ≤ u := by omega
    obtain ⟨x, hF⟩ : ∃ x, F [108, 111, 103] = some x := by
      cases hF : F [108, 111, 103] with
      | none => exact absurd (.inl hF) hc
      | some x => exact ⟨x, rfl⟩
    have hO := logOpen_off B nb a pw t x.2 C l u room F [108, 111, 103] x.1 w hd hnb hl hlu (by decide) hF
    have HO := Lib.hid hO
    have HD := Lib.hid hd
    clear hO hd hi hp hc hF
    go_enter Tryd.func42, Tryd.ntmps42
    go_wp2_with (fail)
    refine HO.out.mono ?_
    rintro e w' (h | ⟨rfl, hb⟩)
    · obtain ⟨v, rfl, C', u', F', t', h1, h2, h3, h4, h5⟩ := cutOpen_ret h hT.out HI.out HP.out hdl
      have H := Lib.hid (show CutOpen B ps d nb a pw t C l room [108, 111, 103] w (.returned (.tuple #[])) w' from ⟨true, rfl, C', u', F', t', h1, h2, h3, h4, h5⟩)
      clear h h1 h2 h3 h4 h5
      go_wp2_with (fail)
      go_end0
      exact H.out
    · go_wp2_with (fail)
      exact ⟨rfl, false, rfl, C, u, F, t, (HD.out.below hb).more (by omega) hnb, Nat.le_refl _, HI.out, fun g h => .inl h, Mod.of_below hb⟩
theorem runCut1 (B vl vw vd n c a pw p B' : Nat) (A : Option Addr) (L : BL) (C : Nat → Prop) (l : Int) (k : Txt) (F : Files) (w : World) (hr : RowsAt w B' A n L) (hB' : B' ≤ w.heap.size) (hn : n ≤ 12) (h40 : ∀ x ∈ L, x.2.1 ≤ 40) (hd : DS B w C 0 a pw l 0 2000 F 0) (hF : F k = none) (hk : k.length ≤ maxLen) (hl : 0 ≤ l) (hp : LogAt w p a k) (hpc : ¬ C p) (hpp : p ≠ pw)
    (hvl : w.cell? ⟨vl, 0, none⟩ = some (.slice A n c)) (hvw : w.heap[vw]? = some (.cells #[.pointer (some ⟨p, 0, none⟩)] 46 (0, 0))) (hvd : w.heap[vd]? = some (.cells #[.int .i64 0] 3 (0, 0))) (hcw : ¬ C vw) (hcd : ¬ C vd) (hpwd : vd ≠ pw) (hpww : vw ≠ pw) (hdw : vd ≠ vw) (hdp : vd ≠ p) (hBv : B' ≤ vd) (hBB : B' ≤ B) :
    Calls Tryd.prog 38 #[.func (.func 39) #[] #[.pointer (some ⟨vl, 0, none⟩), .pointer (some ⟨vw, 0, none⟩), .pointer (some ⟨vd, 0, none⟩)]] w fun e w' => ∃ b : Bool, e = .returned (.bool b) ∧ ∃ d C' u' F' t', d ≤ n ∧ DS B w' C' (2 * n) a pw l u' 2000 F' t' ∧ t' ≤ 48 * n ∧ CutInv (bytesOf L) F' k d ∧ w'.heap[vd]? = some (.cells #[.int .i64 (d : Nat)] 3 (0, 0)) ∧ (∀ g, C' g → C g ∨ w.heap.size ≤ g) ∧ Mod (fun g => TouchD C pw g ∨ g = vd) w w' := by
  have eg : ∀ args w, (callFunc 39 args).run Tryd.prog w = .ok (.enter 39 args) w := enters_of Tryd.func39 (by kernel_rfl) rfl
  have hb := (Below.refl w.heap.size w).alloc (Nat.le_refl _) (.cells #[.bool false] 4 (0, 0))
  have hs := World.size_alloc w (.cells #[.bool false] 4 (0, 0))
  have hlt := hd.lt
  have hvdl := lt_of_heap hvd
  have hnew : (w.alloc (.cells #[.bool false] 4 (0, 0))).heap[w.heap.size]? = some (.cells #[.bool false] 4 (0, 0)) := heap_alloc_new _ _
  have hnc : ∀ g, w.heap.size ≤ g → ¬ (TouchD C pw g ∨ g = vd) := fun g hg h => by
    rcases h with h | h
    · have := hlt g h; omega
    · omega
  have hc := clo1 B vl vw vd n c a pw p B' A L C l k F (w.alloc (.cells #[.bool false] 4 (0, 0))) (hr.below (hb.mono hB')) (by omega) hn h40 (hd.below hb) hF hk hl (hp.below hb) hpc hpp (calloc hvl _) (heap_alloc_keep hvw _) (heap_alloc_keep hvd _) hcw hcd hpwd hpww hdw hdp hBv hBB
  refine (run_any 39 #[] #[.pointer (some ⟨vl, 0, none⟩), .pointer (some ⟨vw, 0, none⟩), .pointer (some ⟨vd, 0, none⟩)] w (fun b w2 => CutEnd B (bytesOf L) vd a pw n C l 2000 k (w.alloc (.cells #[.bool false] 4 (0, 0))) (if b then .returned (.tuple #[]) else .panicked [{ v := offV, recovered := false }]) w2) eg (hc.mono fun e w2 h => ?_)).mono ?_
  · obtain ⟨b, he, d, C', u', F', t', h1, h2, h3, h4, h5, h6, h7⟩ := h
    have hbk := h7.blk hnew (hnc _ (Nat.le_refl _))
    exact ⟨b, he, by rw [cell_of_blk hbk]; rfl, frozen_of_blk hbk 0, b, rfl, d, C', u', F', t', h1, h2, h3, h4, h5, h6, h7⟩
  · rintro e w' ⟨b, rfl, w2, ⟨b', _, d, C', u', F', t', h1, h2, h3, h4, h5, h6, h7⟩, hm⟩
    refine ⟨b, rfl, d, C', u', F', t', h1, h2.mod hm (fun g hg e => ?_) (fun e => ?_), h3, h4, hm.blk h5 (fun e => by omega), fun g hg => ?_, ?_⟩
    · subst e
      rcases h6 _ hg with h | h
      · exact hnc _ (Nat.le_refl _) (.inl (.inl h))
      · omega
    · exact hnc _ (Nat.le_refl _) (.inl (.inr e.symm))
    · rcases h6 g hg with h | h
      · exact .inl h
      · exact .inr (by omega)
    · refine ((Mod.of_below hb).trans h7 (fun _ _ h => h)).trans hm (fun g hg e => by omega)
theorem runCut2 (B vb nb a pw t d : Nat) (C : Nat → Prop) (l u room : Int) (F : Files) (ps : List (List UInt8)) (w : World) (hd : DS B w C nb a pw l u room F t) (hnb : nb + 1 ≤ 1000000) (hl : 0 ≤ l) (hi : CutInv ps F [108, 111, 103] d) (hp : ∀ p ∈ ps, p.length < 2 ^ 32) (hdl : d ≤ ps.length) (hv : w.cell? ⟨vb, 0, none⟩ = some (.pointer (some ⟨a, 0, none⟩))) :
    Calls Tryd.prog 38 #[.func (.func 42) #[] #[.pointer (some ⟨vb, 0, none⟩)]] w fun e w' => ∃ b : Bool, e = .returned (.bool b) ∧ ∃ C' u' F' t', DS B w' C' (nb + 1) a pw l u' room F' t' ∧ t' ≤ t ∧ CutInv ps F' [108, 111, 103] d ∧ (∀ g, C' g → C g ∨ w.heap.size ≤ g) ∧ Mod (TouchD C pw) w w' := by
  have eg : ∀ args w, (callFunc 42 args).run Tryd.prog w = .ok (.enter 42 args) w := enters_of Tryd.func42 (by kernel_rfl) rfl
  have hb := (Below.refl w.heap.size w).alloc (Nat.le_refl _) (.cells #[.bool false] 4 (0, 0))
  have hs := World.size_alloc w (.cells #[.bool false] 4 (0, 0))
  have hlt := hd.lt
  have hnew : (w.alloc (.cells #[.bool false] 4 (0, 0))).heap[w.heap.size]? = some (.cells #[.bool false] 4 (0, 0)) := heap_alloc_new _ _
  have hnc : ∀ g, w.heap.size ≤ g → ¬ TouchD C pw g := fun g hg h => by have := hlt g h; omega
  have hc := clo2 B vb nb a pw t d C l u room F ps (w.alloc (.cells #[.bool false] 4 (0, 0))) (hd.below hb) hnb hl hi hp hdl (calloc hv _)
  refine (run_any 42 #[] #[.pointer (some ⟨vb, 0, none⟩)] w (fun b w2 => CutOpen B ps d nb a pw t C l room [108, 111, 103] (w.alloc (.cells #[.bool false] 4 (0, 0))) (if b then .returned (.tuple #[]) else .panicked [{ v := offV, recovered := false }]) w2) eg (hc.mono fun e w2 h => ?_)).mono ?_
  · obtain ⟨b, he, C', u', F', t', h1, h2, h3, h4, h5⟩ := h
    have hbk := h5.blk hnew (hnc _ (Nat.le_refl _))
    exact ⟨b, he, by rw [cell_of_blk hbk]; rfl, frozen_of_blk hbk 0, b, rfl, C', u', F', t', h1, h2, h3, h4, h5⟩
  · rintro e w' ⟨b, rfl, w2, ⟨b', _, C', u', F', t', h1, h2, h3, h4, h5⟩, hm⟩
    refine ⟨b, rfl, C', u', F', t', h1.mod hm (fun g hg e => ?_) (fun e => ?_), h2, h3, fun g hg => ?_, ?_⟩
    · subst e
      rcases h4 _ hg with h | h
      · exact hnc _ (Nat.le_refl _) (.inl h)
      · omega
    · exact hnc _ (Nat.le_refl _) (.inr e.symm)
    · rcases h4 g hg with h | h
      · exact .inl h
      · exact .inr (by omega)
    · refine ((Mod.of_below hb).trans h5 (fun _ _ h => h)).trans hm (fun g hg e => by omega)

set_option maxHeartbeats 2000000 in
theorem cutDC (C : Nat → Prop) (N a pw m : Nat) (l u room : Int) (F : Files) (k : Txt) (bs : List UInt8) (kept : Nat) (w : World) (h : DiskAt w C N a pw room F) (hp : PwAt w pw l u) (hpC : ¬ C pw) (hu0 : 0 ≤ u) (hu1 : u < 1000000000) (hl : l < 0 ∨ u < l) (hk : k.length ≤ maxLen) (hF : F k = some (bs, kept)) (hm : m ≤ bs.length) (hbs : bs.length ≤ 1000000000) :
    Calls Tryd.prog 53 #[.pointer (some ⟨a, 0, none⟩), txt k, .int .i64 m] w fun e w' => ∃ C', e = .returned (.int .i64 0) ∧ DiskAt w' C' N a pw room (putF F k (bs.take m, m)) ∧ (∀ b, C' b → C b) ∧ PwAt w' pw l (u + 1) ∧ ¬ C' pw ∧ Mod (fun b => C b ∨ b = pw) w w' := by
  obtain ⟨mb, P, V, h⟩ := h
  have hM := Lib.hid h.map
  have c0 : w.cell? ⟨a, 0, none⟩ = some (.pointer (some ⟨pw, 0, none⟩)) := by rw [cell_of_blk h.disk 0]; rfl
  have c1 : w.cell? ⟨a, 1, none⟩ = some (.map (some mb)) := by rw [cell_of_blk h.disk 1]; rfl
  have HR : Hid ((Option.map (fun _ => Value.pointer (some ⟨P k, 0, none⟩)) (F k)) = some (.pointer (some ⟨P k, 0, none⟩))) := Lib.hid (by rw [hF]; rfl)
  obtain ⟨g1, g2, _, _⟩ := h.file k bs kept hF
  obtain ⟨A', c', hV, hc⟩ := g2.form
  have d0 : w.cell? ⟨P k, 0, none⟩ = some (.slice A' bs.length c') := by rw [cell_of_blk g1]; exact congrArg some hV
  have HD := Lib.hid h
  have HF := Lib.hid hF
  have HP := Lib.hid hp
  have hm0 : (0 : Int) ≤ (m : Int) := by omega
  have hm1 : decide ((bs.length : Int) < (m : Int)) = false := by simp; omega
  have hm2 : (m : Int) ≤ (bs.length : Int) := by omega
  have hm3 : m ≤ c' := by omega
  have hm4 : (m : Int) ≤ (c' : Int) := by omega
  clear h hF hp g1 g2
  go_enter Tryd.func53, Tryd.ntmps53
  go_wp2_with (at_lookup; (refine wpList_look rfl _ _ 82 rfl 85 Tryd.underlying82 (zeroFile _) mb N _ rfl hM.out k rfl hk _ HR.out ?_))
  refine (tickP pw l u _ HP.out hu0 hu1 hl).mono ?_
  rintro e w2 ⟨rfl, hp2, hmm2, hz2⟩
  have hD2 : DiskIn w2 C N a pw mb room F P V := HD.out.mod hmm2 (fun b hb e => hpC (e ▸ hb))
  obtain ⟨f1, f2, f3, f4⟩ := hD2.file k bs kept HF.out
  have d0' : w2.cell? ⟨P k, 0, none⟩ = some (.slice A' bs.length c') := by rw [cell_of_blk f1]; exact congrArg some hV
  have d1' : w2.cell? ⟨P k, 1, none⟩ = some (.int .i64 kept) := by rw [cell_of_blk f1]; rfl
  have q0 := frozen_of_blk f1 0
  have q1 := frozen_of_blk f1 1
  have HV := Lib.hid hV
  have HD2 := Lib.hid hD2
  have HP2 := Lib.hid hp2
  clear hz2 hD2 f1 hV c0 c1 hp2 d0
  cases A' with
  | none =>
    have hb0 : bs = [] := by
      rcases f2.2 with ⟨_, h⟩ | ⟨g, cap, cur, h, _⟩
      · exact List.length_eq_zero_iff.1 h
      · rw [HV.out] at h; cases h
    subst hb0
    obtain rfl : m = 0 := by simpa using hm
    have HE := Lib.hid (cut_end HD2.out HF.out HV.out hm)
    clear f2
    go_wp2_with (fail)
    go_ret
    obtain ⟨C', h1, h2⟩ := HE.out
    exact ⟨C', rfl, h1, h2, blk_set_far (blk_set_far HP2.out (fun e => hpC (by simp at e; exact e ▸ f3)) _) (fun e => hpC (by simp at e; exact e ▸ f3)) _, fun h => hpC (h2 _ h), (((hmm2.mono fun _ _ h => .inr h).setCell (p := ⟨P k, 0, none⟩) (fun _ => .inl f3) _).setCell (p := ⟨P k, 1, none⟩) (fun _ => .inl f3) _)⟩
  | some ad =>
    have HE := Lib.hid (cut_end HD2.out HF.out HV.out hm)
    clear f2
    go_wp2_with (fail)
    go_ret
    obtain ⟨C', h1, h2⟩ := HE.out
    exact ⟨C', rfl, h1, h2, blk_set_far (blk_set_far HP2.out (fun e => hpC (by simp at e; exact e ▸ f3)) _) (fun e => hpC (by simp at e; exact e ▸ f3)) _, fun h => hpC (h2 _ h), (((hmm2.mono fun _ _ h => .inr h).setCell (p := ⟨P k, 0, none⟩) (fun _ => .inl f3) _).setCell (p := ⟨P k, 1, none⟩) (fun _ => .inl f3) _)⟩
theorem dsCutC (B : Nat) (C : Nat → Prop) (nb a pw t m : Nat) (l u room : Int) (F : Files) (k : Txt) (bs : List UInt8) (kept : Nat) (w : World) (h : DS B w C nb a pw l u room F t) (hnb : nb < 1000000) (hl : l < 0 ∨ u < l) (hk : k.length ≤ maxLen) (hF : F k = some (bs, kept)) (hm : m ≤ bs.length) :
    Calls Tryd.prog 53 #[.pointer (some ⟨a, 0, none⟩), txt k, .int .i64 m] w fun e w' => e = .returned (.int .i64 0) ∧ ∃ C', DS B w' C' (nb + 1) a pw l (u + 1) room (putF F k (bs.take m, m)) (t - bs.length + m) ∧ (∀ b, C' b → C b) ∧ Mod (TouchD C pw) w w' ∧ Below B w w' := by
  obtain ⟨N, hN, hd⟩ := h.disk
  have h0 := h.u0
  have h1 := h.u1
  have h4 := h.r1
  have h5 := h.t1
  have h6 := h.tot.one k
  have h7 : lenF F k = bs.length := by simp [lenF, hF]
  have hl2 : (bs.take m).length = m := by rw [List.length_take]; omega
  have ht := h.tot.put k (bs.take m, m)
  simp only [hl2, h7] at ht
  refine (cutDC C N a pw m l u room F k bs kept w hd h.pow h.npw h0 (by omega) hl hk hF hm (by omega)).mono fun e w' hs => ?_
  obtain ⟨C', rfl, g1, g2, g3, g4, g5⟩ := hs
  obtain ⟨_, C2, q1, q2, q3, q4⟩ := ds_step h ⟨C', rfl, g1, fun b hb => .inl (g2 b hb), g3, g4, g5⟩ (by omega) hnb ht (keptOk_put h.kept k _ _ (by rw [hl2]; exact Nat.le_refl _)) (by omega)
  refine ⟨rfl, C', ⟨⟨N, by omega, g1⟩, g3, g4, ht, keptOk_put h.kept k _ _ (by rw [hl2]; exact Nat.le_refl _), fun b hb => h.base b (g2 b hb), h.pbase, by omega, by omega, by omega, h.r0, h.r1, by omega⟩, g2, g5, q4⟩
/-- As RetOpen, but that the disk has no new blocks. -/
def RetOpenC (w : World) (B : Nat) (C : Nat → Prop) (nb a pw : Nat) (l room : Int) (F : Files) (k : Txt) (e : Ending) (w' : World) : Prop :=
  ∃ (p : Nat) (v : Value) (C' : Nat → Prop) (u' : Int) (t' : Nat), e = .returned (.tuple #[.pointer (some ⟨p, 0, none⟩), v, .int .i64 0]) ∧ DS B w' C' (nb + 1) a pw l u' room (openF F k) t' ∧ (∀ b, C' b → C b) ∧ Mod (TouchD C pw) w w' ∧ LogAt w' p a k ∧ w.heap.size ≤ p ∧ ¬ C' p ∧ Pieces w' w.heap.size v (splitF (dataF F k)).1
set_option maxHeartbeats 4000000 in
set_option maxRecDepth 100000 in
theorem logOpen_someC (B nb a pw t kept : Nat) (C : Nat → Prop) (l u room : Int) (F : Files) (k : Txt) (bs : List UInt8) (w : World) (h : DS B w C nb a pw l u room F t) (hnb : nb + 1 ≤ 1000000) (hl : l < 0) (hk : k.length ≤ maxLen) (hF : F k = some (bs, kept)) :
    Calls Tryd.prog 31 #[.pointer (some ⟨a, 0, none⟩), .string ⟨k.toArray⟩] w (RetOpenC w B C nb a pw l room F k) := by
  have hlt := h.lt
  have hln : bs.length ≤ 1000000 := by
    have h1 := h.tot.one k
    have h2 : lenF F k = bs.length := by simp [lenF, hF]
    have := h.t1
    have := h.r1
    omega
  have hkp := h.kept k bs kept hF
  have hop : openF F k = putF F k (bs.take (splitF bs).2, (splitF bs).2) := by simp [openF, hF]
  have hda : dataF F k = bs := by simp [dataF, hF]
  have hgl := splitF_le bs.length bs (Nat.le_refl _)
  have HD := Lib.hid h
  have HF := Lib.hid hF
  have HOP := Lib.hid hop
  have HDA := Lib.hid hda
  clear h hF hop hda
  obtain ⟨G, hG⟩ : ∃ G, G = (splitF bs).2 := ⟨_, rfl⟩
  obtain ⟨len, hlen⟩ : ∃ len, len = bs.length := ⟨_, rfl⟩
  rw [← hG] at hgl
  rw [← hlen] at hgl hln hkp
  have HG := Lib.hid hG
  have HLEN := Lib.hid hlen
  clear hG hlen
  go_enter Tryd.func31, Tryd.ntmps31
  go_wp2_with (fail)
  have hb1 := (Below.refl w.heap.size w).alloc (Nat.le_refl _) (.cells #[.pointer (some ⟨a, 0, none⟩), .string ⟨k.toArray⟩] 80 (0, 0))
  have hp1 : LogAt (w.alloc (.cells #[.pointer (some ⟨a, 0, none⟩), .string ⟨k.toArray⟩] 80 (0, 0))) w.heap.size a k := heap_alloc_new _ _
  have hs1 : (w.alloc (.cells #[.pointer (some ⟨a, 0, none⟩), .string ⟨k.toArray⟩] 80 (0, 0))).heap.size = w.heap.size + 1 := World.size_alloc _ _
  have HD1 := Lib.hid (HD.out.below hb1)
  generalize w.alloc (.cells #[.pointer (some ⟨a, 0, none⟩), .string ⟨k.toArray⟩] 80 (0, 0)) = w1 at *
  refine (dsRead B C nb a pw t l u room F k bs kept w1 HD1.out hk HF.out).mono ?_
  rintro e w2 ⟨v, A2, c2, rfl, rfl, hrow2, _, hb2⟩
  rw [← HLEN.out] at hrow2 ⊢
  have hc2 : len ≤ c2 := by
    obtain ⟨_, _, e2, h2⟩ := hrow2.form
    injection e2 with _ _ e2
    omega
  have hz2 := hb2.size
  have hp2 := hp1.below hb2
  have HD2 := Lib.hid (HD1.out.below hb2)
  have HB2 := Lib.hid (hb1.trans (hb2.mono (by omega)))
  have HR2 := Lib.hid hrow2.reads
  clear hrow2 hb2 hp1 hb1 HD1
  go_wp2_with (fail)
  refine (splitC A2 len c2 _ bs w2 HR2.out (Nat.le_refl _) (by omega) hc2).mono ?_
  rintro e w3 ⟨v3, rfl, hpc3, hb3⟩
  rw [← HG.out]
  obtain ⟨A3, c3, rfl, _⟩ := hpc3.form
  have hz3 := hb3.size
  have hp3 := hp2.below hb3
  have HD3 := Lib.hid (HD2.out.below hb3)
  have HB3 := Lib.hid (HB2.out.trans (hb3.mono (by omega)))
  have HPC := Lib.hid hpc3
  clear hpc3 hb3 hp2 HD2 HB2
  by_cases hg : G < len
  · have hgd : decide (G < len) = true := decide_eq_true hg
    go_wp2_with (fail)
    refine (dsCutC B C nb a pw t G l u room F k bs kept w3 HD3.out (by omega) (.inl hl) hk HF.out (by rw [← HLEN.out]; omega)).mono ?_
    rintro e w4 ⟨rfl, C4, hd4, hc4s, hm4, hb4⟩
    have hc4 : ∀ b, C4 b → C b ∨ w3.heap.size ≤ b := fun b h => .inl (hc4s b h)
    have HC4S := Lib.hid hc4s
    have HD4 := Lib.hid hd4
    have HC4 := Lib.hid hc4
    have HM4 := Lib.hid hm4
    clear hd4 hc4 hc4s hm4 hb4
    go_wp2_with (fail)
    refine bodyPost_ret (v := .tuple #[.pointer (some ⟨w.heap.size, 0, none⟩), .slice A3 (splitF bs).1.length c3, .int .i64 0]) (by simp [results, Tryd.results31, go_sem, *]) rfl ?_
    have hpt : ∀ g, w.heap.size ≤ g → ¬ TouchD C pw g := fun g hg h => Nat.not_lt.2 hg (hlt g h)
    refine ⟨_, _, C4, u + 1, _, rfl, by rw [HOP.out, ← HG.out]; exact HD4.out, HC4S.out, (Mod.of_below HB3.out).trans HM4.out (fun _ _ h => h), hp3.mod HM4.out (hpt _ (Nat.le_refl _)), Nat.le_refl _, fun h => ?_, ?_⟩
    · rcases HC4.out _ h with h | h
      · exact hpt _ (Nat.le_refl _) (.inl h)
      · omega
    · rw [HDA.out]
      exact (HPC.out.mod HM4.out (fun g hg => hpt g (by omega))).lower (by omega)
  · have hgd : decide (G < len) = false := decide_eq_false hg
    go_wp2_with (fail)
    refine (dsKept B C nb a pw t l u room F k w3 HD3.out hk).mono ?_
    rintro e w4 ⟨rfl, rfl⟩
    have hkf : keptF F k = kept := by simp [keptF, HF.out]
    rw [hkf]
    clear hkf
    by_cases hkg : kept < G
    · have hkd : decide (kept < G) = true := decide_eq_true hkg
      go_wp2_with (fail)
      refine (dsCutC B C nb a pw t G l u room F k bs kept w4 HD3.out (by omega) (.inl hl) hk HF.out (by rw [← HLEN.out]; omega)).mono ?_
      rintro e w5 ⟨rfl, C4, hd4, hc4s, hm4, hb4⟩
      have hc4 : ∀ b, C4 b → C b ∨ w4.heap.size ≤ b := fun b h => .inl (hc4s b h)
      have HC4S := Lib.hid hc4s
      have HD4 := Lib.hid hd4
      have HC4 := Lib.hid hc4
      have HM4 := Lib.hid hm4
      clear hd4 hc4 hc4s hm4 hb4
      go_wp2_with (fail)
      refine bodyPost_ret (v := .tuple #[.pointer (some ⟨w.heap.size, 0, none⟩), .slice A3 (splitF bs).1.length c3, .int .i64 0]) (by simp [results, Tryd.results31, go_sem, *]) rfl ?_
      have hpt : ∀ g, w.heap.size ≤ g → ¬ TouchD C pw g := fun g hg h => Nat.not_lt.2 hg (hlt g h)
      refine ⟨_, _, C4, u + 1, _, rfl, by rw [HOP.out, ← HG.out]; exact HD4.out, HC4S.out, (Mod.of_below HB3.out).trans HM4.out (fun _ _ h => h), hp3.mod HM4.out (hpt _ (Nat.le_refl _)), Nat.le_refl _, fun h => ?_, ?_⟩
      · rcases HC4.out _ h with h | h
        · exact hpt _ (Nat.le_refl _) (.inl h)
        · omega
      · rw [HDA.out]
        exact (HPC.out.mod HM4.out (fun g hg => hpt g (by omega))).lower (by omega)
    · have hkd : decide (kept < G) = false := decide_eq_false hkg
      go_wp2_with (fail)
      refine bodyPost_ret (v := .tuple #[.pointer (some ⟨w.heap.size, 0, none⟩), .slice A3 (splitF bs).1.length c3, .int .i64 0]) (by simp [results, Tryd.results31, go_sem, *]) rfl ?_
      have hsame : openF F k = F := by
        rw [HOP.out, ← HG.out, List.take_of_length_le (by rw [← HLEN.out]; omega)]
        funext z
        unfold putF
        split
        · rename_i hz
          rw [hz, HF.out, show kept = G by omega]
        · rfl
      refine ⟨_, _, C, u, t, rfl, by rw [hsame]; exact HD3.out.more (by omega) hnb, fun b hb => hb, Mod.of_below HB3.out, hp3, Nat.le_refl _, fun h => ?_, ?_⟩
      · have := hlt _ (.inl h)
        omega
      · rw [HDA.out]
        exact HPC.out.lower (by omega)

theorem logOpen_noneC (B nb a pw t : Nat) (C : Nat → Prop) (l u room : Int) (F : Files) (k : Txt) (w : World) (h : DS B w C nb a pw l u room F t) (hnb : nb + 1 ≤ 1000000) (hk : k.length ≤ maxLen) (hF : F k = none) :
    Calls Tryd.prog 31 #[.pointer (some ⟨a, 0, none⟩), .string ⟨k.toArray⟩] w (RetOpenC w B C nb a pw l room F k) := by
  refine (logOpen_new B nb a pw t C l u room F k w h hk hF).mono ?_
  rintro e w' ⟨rfl, h1, h2⟩
  have e1 : openF F k = F := by simp [openF, hF]
  have e2 : dataF F k = [] := by simp [dataF, hF]
  refine ⟨w.heap.size, .slice none 0 0, C, u, t, rfl, by rw [e1]; exact (h.below h2).more (by omega) hnb, fun b hb => hb, Mod.of_below h2, h1, Nat.le_refl _, fun hc => ?_, ?_⟩
  · have := h.lt _ (.inl hc); omega
  · rw [e2, splitF_none (by decide)]; exact Pieces.nil _ _

set_option maxHeartbeats 8000000 in
set_option maxRecDepth 100000 in
theorem cut7 (A : Option Addr) (n c limit again bits more : Nat) (L : BL) (w : World) (hn : NoneLaid w) (hr : RowsAt w w.heap.size A n L) (hnb : n ≤ 9223372036854775807) (hlim : limit < 256) (hag : again < 256) (hnc : n ≤ c) (hbits : bits < 2 ^ 64) (hmore : more < 2 ^ 64) :
    Calls Tryd.prog 11 #[.slice A n c, .int .u8 limit, .int .u8 again, .int .u64 bits, .int .u64 more] w fun e w' => e = .returned (.bool true) ∧ Below w.heap.size w w' := by
  have hl := hr.len
  have HR := Lib.hid hr
  have HL := Lib.hid hl
  clear hr hl
  obtain ⟨l1, hl1⟩ : ∃ l1, l1 = limit % 40 := ⟨_, rfl⟩
  have hl14 : l1 < 40 := by omega
  have hr1 : (limit : Int) % 40 = (l1 : Int) := by omega
  have hr0 : (limit : Int).tmod 40 = (l1 : Int) := by rw [Int.tmod_eq_emod_of_nonneg (by omega)]; exact hr1
  have hr5 : IntKind.u8.wrap (l1 : Int) = (l1 : Int) := IntWalk.u8_in _ (by omega)
  obtain ⟨l2, hl2⟩ : ∃ l2, l2 = again % 5 := ⟨_, rfl⟩
  have hl24 : l2 < 5 := by omega
  have hs1 : (again : Int) % 5 = (l2 : Int) := by omega
  have hs0 : (again : Int).tmod 5 = (l2 : Int) := by rw [Int.tmod_eq_emod_of_nonneg (by omega)]; exact hs1
  have hs5 : IntKind.u8.wrap (l2 : Int) = (l2 : Int) := IntWalk.u8_in _ (by omega)
  have hw1' : IntKind.i64.wrap (l1 : Int) = (l1 : Int) := IntWalk.i64_in _ (by omega)
  have hw2' : IntKind.i64.wrap (l2 : Int) = (l2 : Int) := IntWalk.i64_in _ (by omega)
  clear hl1 hl2
  go_enter Tryd.func11, Tryd.ntmps11
  go_wp2_with (fail)
  have hb0 := (Below.refl w.heap.size w).alloc (Nat.le_refl _) (.cells #[.slice A n c] 26 (0, 0))
  have hn0 : NoneLaid (w.alloc (.cells #[.slice A n c] 26 (0, 0))) := hn.alloc _
  have hs0' := World.size_alloc w (.cells #[.slice A n c] 26 (0, 0))
  have hv0 : (w.alloc (.cells #[.slice A n c] 26 (0, 0))).heap[w.heap.size]? = some (.cells #[.slice A n c] 26 (0, 0)) := heap_alloc_new _ _
  obtain ⟨vl, hvl⟩ : ∃ vl, vl = w.heap.size := ⟨_, rfl⟩
  rw [← hvl] at hv0 ⊢
  clear hn
  have HB0 := Lib.hid hb0
  clear hb0
  generalize w.alloc (.cells #[.slice A n c] 26 (0, 0)) = w0 at *
  have hvlt : vl < w0.heap.size := by omega
  clear hvl
  refine (awake7_any w0 hn0).mono ?_
  rintro e w1 ⟨rfl, hb1⟩
  have hz1 := hb1.size
  have HB1 := Lib.hid (HB0.out.trans (hb1.mono (by omega)))
  have HV1 := Lib.hid ((hb1.block _ hvlt).trans hv0)
  clear hb1 hn0 hv0
  have hv1 : w1.cell? ⟨vl, 0, none⟩ = some (.slice A n c) := by rw [cell_of_blk HV1.out]; rfl
  go_wp2_with (fail)
  by_cases hlight : (∀ x ∈ L, x.2.1 ≤ 40) ∧ n ≤ 12
  · refine (light7 true A n c _ L w1 (HR.out.below HB1.out) hnb (decide_eq_true hlight)).mono ?_
    rintro e w1' ⟨rfl, hw1'⟩
    rw [hw1']
    clear hw1' w1'
    obtain ⟨h40, hn12⟩ := hlight
    have H40 := Lib.hid h40
    clear h40
    go_wp2_with (fail)
    refine (dsNew 2000 w1 (by omega) (by omega)).mono ?_
    rintro e w2 ⟨C, a, pw, rfl, hd, hb2⟩
    have hz2 := hb2.size
    have hlt := hd.lt
    have HD2 := Lib.hid hd
    have HB2 := Lib.hid (HB1.out.trans (hb2.mono (by omega)))
    have HV2 := Lib.hid ((hb2.block _ (by omega)).trans HV1.out)
    clear hd hb2 hv1
    go_wp2_with (fail)
    have hbx := (Below.refl w2.heap.size w2).alloc (Nat.le_refl _) (.cells #[.pointer (some ⟨a, 0, none⟩)] 44 (0, 0))
    have hvx : (w2.alloc (.cells #[.pointer (some ⟨a, 0, none⟩)] 44 (0, 0))).heap[w2.heap.size]? = some (.cells #[.pointer (some ⟨a, 0, none⟩)] 44 (0, 0)) := heap_alloc_new _ _
    have hsx := World.size_alloc w2 (.cells #[.pointer (some ⟨a, 0, none⟩)] 44 (0, 0))
    obtain ⟨vb, hvb⟩ : ∃ vb, vb = w2.heap.size := ⟨_, rfl⟩
    rw [← hvb] at hvx ⊢
    have hvbc : ¬ C vb := fun h => by have := hlt _ (.inl h); omega
    have hvbp : vb ≠ pw := fun h => by have := hlt pw (.inr rfl); omega
    have HDx := Lib.hid (HD2.out.below hbx)
    have HBx := Lib.hid (HB2.out.trans (hbx.mono (by omega)))
    have HVx := Lib.hid ((hbx.block _ (by omega)).trans HV2.out)
    have HBX := Lib.hid hvx
    clear hbx HD2 HV2 hvx
    generalize w2.alloc (.cells #[.pointer (some ⟨a, 0, none⟩)] 44 (0, 0)) = wx at *
    refine (logOpen_new w1.heap.size 0 a pw 0 C (-1) 0 2000 (fun _ => none) [108, 111, 103] wx HDx.out (by decide) rfl).mono ?_
    rintro e w3 ⟨rfl, hp3, hb3⟩
    have hz3 := hb3.size
    have hltx := HDx.out.lt
    obtain ⟨p, hpe⟩ : ∃ p, p = wx.heap.size := ⟨_, rfl⟩
    rw [← hpe] at hp3 ⊢
    have hpl := lt_of_heap hp3
    have hpc : ¬ C p := fun h => by have := hltx _ (.inl h); omega
    have hpp : p ≠ pw := fun h => by have := hltx pw (.inr rfl); omega
    have HD3 := Lib.hid (HDx.out.below hb3)
    have HP3 := Lib.hid hp3
    have HB3 := Lib.hid (HBx.out.trans (hb3.mono (by omega)))
    have HV3 := Lib.hid ((hb3.block _ (by omega)).trans HVx.out)
    have HX3 := Lib.hid ((hb3.block _ (by omega)).trans HBX.out)
    clear hp3 hb3 HDx HVx HBX hltx
    have hvb1 : w2.heap.size ≤ vb := by omega
    have hvb2 : vb < wx.heap.size := by omega
    have hvp1 : vb < p := by omega
    have hpx : wx.heap.size ≤ p := by omega
    clear hvb hpe
    have hx3 : w3.cell? ⟨vb, 0, none⟩ = some (.pointer (some ⟨a, 0, none⟩)) := by rw [cell_of_blk HX3.out]; rfl
    go_wp2_with (fail)
    have hb4 := ((Below.refl w3.heap.size w3).alloc (Nat.le_refl _) (.cells #[.pointer (some ⟨p, 0, none⟩)] 46 (0, 0))).alloc (by rw [World.size_alloc]; omega) (.cells #[.int .i64 0] 3 (0, 0))
    have hs4 : ((w3.alloc (.cells #[.pointer (some ⟨p, 0, none⟩)] 46 (0, 0))).alloc (.cells #[.int .i64 0] 3 (0, 0))).heap.size = w3.heap.size + 2 := by rw [World.size_alloc, World.size_alloc]
    have hw4 : ((w3.alloc (.cells #[.pointer (some ⟨p, 0, none⟩)] 46 (0, 0))).alloc (.cells #[.int .i64 0] 3 (0, 0))).heap[w3.heap.size]? = some (.cells #[.pointer (some ⟨p, 0, none⟩)] 46 (0, 0)) := heap_alloc_keep (heap_alloc_new _ _) _
    have hd4 : ((w3.alloc (.cells #[.pointer (some ⟨p, 0, none⟩)] 46 (0, 0))).alloc (.cells #[.int .i64 0] 3 (0, 0))).heap[w3.heap.size + 1]? = some (.cells #[.int .i64 0] 3 (0, 0)) := by
      have := heap_alloc_new (w3.alloc (.cells #[.pointer (some ⟨p, 0, none⟩)] 46 (0, 0))) (.cells #[.int .i64 0] 3 (0, 0))
      rw [World.size_alloc] at this
      exact this
    have HD4 := Lib.hid (HD3.out.below hb4)
    have HP4 := Lib.hid (HP3.out.below hb4)
    have HB4 := Lib.hid (HB3.out.trans (hb4.mono (by omega)))
    have HV4 := Lib.hid ((hb4.block _ (by omega)).trans HV3.out)
    have HX4 := Lib.hid ((hb4.block _ (by omega)).trans HX3.out)
    generalize (w3.alloc (.cells #[.pointer (some ⟨p, 0, none⟩)] 46 (0, 0))).alloc (.cells #[.int .i64 0] 3 (0, 0)) = w4 at *
    obtain ⟨vw, hvw⟩ : ∃ vw, vw = w3.heap.size := ⟨_, rfl⟩
    rw [← hvw] at hw4 hd4 ⊢
    obtain ⟨vd, hvd⟩ : ∃ vd, vd = vw + 1 := ⟨_, rfl⟩
    rw [← hvd] at hd4 ⊢
    have hlt3 := HD3.out.lt
    have hcw : ¬ C vw := fun h => by have := hlt3 _ (.inl h); omega
    have hcd : ¬ C vd := fun h => by have := hlt3 _ (.inl h); omega
    have hw1 : w3.heap.size ≤ vw := by omega
    have hw2 : vw < vd := by omega
    have hw3 : vd < w4.heap.size := by omega
    have HW4 := Lib.hid hw4
    have HC4 := Lib.hid hd4
    have hx4 : w4.cell? ⟨vb, 0, none⟩ = some (.pointer (some ⟨a, 0, none⟩)) := by rw [cell_of_blk HX4.out]; rfl
    clear hb4 hw4 hd4 hvw hvd hlt3 hx3 HD3 HP3 HV3 HX3 hs4
    have hlt4 := HD4.out.lt
    have hpc5 : ¬ C w4.heap.size := fun h => by have := hlt4 _ (.inl h); omega
    have hpB : w1.heap.size ≤ w4.heap.size := by omega
    go_region_held3 (fun w' => w'.cell? ⟨vb, 0, none⟩ = some (.pointer (some ⟨a, 0, none⟩))) (first | exact hx6 | exact hx5 | exact hx4 | go_keep) ((first
      | (go_at_call 37; refine (newPower (l1 : Nat) _).mono ?_; rintro e w5 ⟨rfl, hp5, hb5, hz5⟩; have hbx5 : Below w4.heap.size w4 w5 := ((Below.refl w4.heap.size w4).drew).trans hb5; have hx5 := cellk hbx5 (by show vb < w4.heap.size; omega) hx4; have HB5 := Lib.hid hbx5; have HP5 := Lib.hid hp5; clear hp5 hb5 hbx5)
      | (go_at_call 36; refine (dsPower w1.heap.size C 0 a pw 0 w4.heap.size (-1) 0 2000 l1 0 _ w5 (HD4.out.below HB5.out) HP5.out hpc5 hpB (by omega) (by omega)).mono ?_; rintro e w6 ⟨rfl, hd6, hm6⟩; have hx6 := hm6.cellv hx5 hvbc; have HD6 := Lib.hid hd6; have HM6 := Lib.hid hm6; clear hd6 hm6)))
    obtain ⟨pw1, hpw1⟩ : ∃ pw1, pw1 = w4.heap.size := ⟨_, rfl⟩
    rw [← hpw1] at HD6 hpc5
    have hq1 : w4.heap.size ≤ pw1 := by omega
    clear hpw1
    have hz46 := HB5.out.size
    have hz66 := HM6.out.size
    have HP6 := Lib.hid ((HP4.out.below HB5.out).mod HM6.out hpc)
    have HW6 := Lib.hid (HM6.out.blk ((HB5.out.block _ (by omega)).trans HW4.out) hcw)
    have HC6 := Lib.hid (HM6.out.blk ((HB5.out.block _ (by omega)).trans HC4.out) hcd)
    have HV6 := Lib.hid (HM6.out.blk ((HB5.out.block _ (by omega)).trans HV4.out) (fun h => by have := HD4.out.base _ h; omega))
    have HX6 := Lib.hid (HM6.out.blk ((HB5.out.block _ (by omega)).trans HX4.out) hvbc)
    have hk6 : Below w1.heap.size w4 w6 := (HB5.out.mono hpB).trans (HM6.out.below (by omega) (fun g hg h => by have := HD4.out.base _ h; omega))
    have HB6 := Lib.hid (HB4.out.trans (hk6.mono (by omega)))
    have hv6 : w6.cell? ⟨vl, 0, none⟩ = some (.slice A n c) := by rw [cell_of_blk HV6.out]; rfl
    clear hk6 HM6 HB5 HP5 HD4 HP4 HW4 HC4 HV4 HX4 hx4 hx5
    go_wp2_with (fail)
    have hlt6 := HD6.out.lt
    refine (runCut1 w1.heap.size vl vw vd n c a pw1 p w.heap.size A L C (l1 : Nat) [108, 111, 103] (fun _ => none) w6 (HR.out.below HB6.out) (HB6.out.size) hn12 H40.out HD6.out rfl (by decide) (by omega) HP6.out hpc (by omega) hv6 HW6.out HC6.out hcw hcd (by omega) (by omega) (by omega) (by omega) (by omega) (by omega)).mono ?_
    rintro e w7 ⟨b7, rfl, d, C7, u7, F7, t7, hdn, hd7, ht7, hi7, hc7, hcc7, hm7⟩
    have hz7 := hm7.size
    have hnc7 : ∀ g, g < w6.heap.size → ¬ C g → ¬ C7 g := fun g hg hn h => by
      rcases hcc7 g h with h | h
      · exact hn h
      · omega
    have hvbl : vb < w6.heap.size := by omega
    have hvb7 := hnc7 vb hvbl hvbc
    have hvd7 := hnc7 vd (by omega) hcd
    have HX7 := Lib.hid (hm7.blk HX6.out (fun h => by rcases h with (h | h) | h; exact hvbc h; omega; omega))
    have hk7 : Below w1.heap.size w6 w7 := hm7.below (by omega) (fun g hg h => by
      rcases h with (h | h) | h
      · have := HD6.out.base _ h; omega
      · omega
      · omega)
    have HB7 := Lib.hid (HB6.out.trans (hk7.mono (by omega)))
    have HV7 := Lib.hid ((hk7.block vl (by omega)).trans HV6.out)
    have HD7 := Lib.hid hd7
    have HI7 := Lib.hid hi7
    have HC7 := Lib.hid hc7
    have hlt7 := hd7.lt
    have hx7 : w7.cell? ⟨vb, 0, none⟩ = some (.pointer (some ⟨a, 0, none⟩)) := by rw [cell_of_blk HX7.out]; rfl
    clear hd7 hi7 hc7 hcc7 hm7 hnc7 hk7 HD6 HP6 HW6 HC6 HV6 HX6 hv6 hx6
    go_wp2_with (fail)
    have HBW7 := HB7
    clear HB7
    have hncw7 : ¬ C7 w7.heap.size := fun h => by have := HD7.out.lt _ (.inl h); omega
    go_region_held3 (fun w' => w'.cell? ⟨vb, 0, none⟩ = some (.pointer (some ⟨a, 0, none⟩))) (first | exact hx9 | exact hx8 | exact hx7 | go_keep) ((first
      | (go_at_call 41; refine (choice4 bits _).mono ?_; rintro e w8 ⟨rfl, hcell, hbv, hz8⟩; have hbx := ((Below.refl w7.heap.size w7).drew).trans hbv; have hx8 := cellk hbx (by show vb < w7.heap.size; omega) hx7; have HB8 := Lib.hid hbx; have HA := Lib.hid (asksChoice _ bits C7 F7 w8 hcell hbits hncw7); clear hcell hbv hbx)
      | (go_at_call 40; refine (dsCrash _ _ _ C7 _ _ a pw1 _ _ _ _ _ (chB bits) _ w8 (HD7.out.below HB8.out) HA.out (fun h => h) (chB_le bits)).mono ?_; rintro e w9 ⟨rfl, ⟨t9, ht9, hd9⟩, _, hm9⟩; have hx9 := hm9.cellv hx8 (fun h => hvb7 (h.resolve_right id)); have HD9 := Lib.hid hd9; have HM9 := Lib.hid hm9; clear hd9 hm9)))
    have hz8 := HB8.out.size
    have hz9 := HM9.out.size
    have HI9 := Lib.hid (HI7.out.crash HD7.out.kept bits)
    have HC9 := Lib.hid (HM9.out.blk ((HB8.out.block _ (by omega)).trans HC7.out) (fun h => hvd7 (h.resolve_right id)))
    have HX9 := Lib.hid (HM9.out.blk ((HB8.out.block _ (by omega)).trans HX7.out) (fun h => hvb7 (h.resolve_right id)))
    have hk9 : Below w1.heap.size w7 w9 := (HB8.out.mono (by omega)).trans (HM9.out.below (by omega) (fun g hg h => by have := HD7.out.base _ (h.resolve_right id); omega))
    have HB9' := Lib.hid (HBW7.out.trans (hk9.mono (by omega)))
    have HV9 := Lib.hid ((hk9.block vl (by omega)).trans HV7.out)
    clear HV7 HA HM9 HB8 HD7 HC7 HX7 hx7 hx8 hk9 HI7 hncw7
    obtain ⟨F9, hF9⟩ : ∃ F9, F9 = crashF F7 (chB bits) := ⟨_, rfl⟩
    rw [← hF9] at HD9 HI9
    have HBW9 := HB9'
    clear hF9 HB9' HBW7
    have hnp9 : ¬ C7 w9.heap.size := fun h => by have := HD9.out.lt _ (.inl h); omega
    have hpB9 : w1.heap.size ≤ w9.heap.size := by omega
    go_wp2_with (fail)
    go_region_held3 (fun w' => w'.cell? ⟨vb, 0, none⟩ = some (.pointer (some ⟨a, 0, none⟩))) (first | exact hx11 | exact hx10 | exact hx9 | go_keep) ((first
      | (go_at_call 37; refine (newPower (l2 : Nat) _).mono ?_; rintro e w10 ⟨rfl, hp, hb, hz10⟩; have hbx : Below w9.heap.size w9 w10 := ((Below.refl w9.heap.size w9).drew).trans hb; have hx10 := cellk hbx (by show vb < w9.heap.size; omega) hx9; have HB10 := Lib.hid hbx; have HP10 := Lib.hid hp; clear hp hb hbx)
      | (go_at_call 36; refine (dsPower w1.heap.size C7 (2 * n) a pw1 t9 w9.heap.size _ _ 2000 (l2 : Nat) 0 F9 w10 (HD9.out.below HB10.out) HP10.out hnp9 hpB9 (by omega) (by omega)).mono ?_; rintro e w11 ⟨rfl, hd, hm⟩; have hx11 := hm.cellv hx10 hvb7; have HD11 := Lib.hid hd; have HM11 := Lib.hid hm; clear hd hm)))
    obtain ⟨pw2, hpw2⟩ : ∃ pw2, pw2 = w9.heap.size := ⟨_, rfl⟩
    rw [← hpw2] at HD11 hnp9
    have hqpw2 : w9.heap.size ≤ pw2 := by omega
    clear hpw2
    have hz10 := HB10.out.size
    have hz11 := HM11.out.size
    have HC11 := Lib.hid (HM11.out.blk ((HB10.out.block _ (by omega)).trans HC9.out) hvd7)
    have HX11 := Lib.hid (HM11.out.blk ((HB10.out.block _ (by omega)).trans HX9.out) hvb7)
    have hk11 : Below w1.heap.size w9 w11 := (HB10.out.mono (by omega)).trans (HM11.out.below (by omega) (fun g hg h => by have := HD9.out.base _ h; omega))
    have HBW11 := Lib.hid (HBW9.out.trans (hk11.mono (by omega)))
    have HV11 := Lib.hid ((hk11.block vl (by omega)).trans HV9.out)
    clear HV9 hk11 HM11 HB10 HP10 HD9 HC9 HX9 hx9 hx10 HBW9
    go_wp2_with (fail)
    have hps : ∀ q ∈ bytesOf L, q.length ≤ 40 := rows_small40 HR.out H40.out
    have hbl : (bytesOf L).length = n := by simp [bytesOf, HL.out]
    have HPS := Lib.hid hps
    have HBL := Lib.hid hbl
    clear hps hbl
    have hlt11 := HD11.out.lt
    refine (runCut2 w1.heap.size vb (2 * n) a pw2 t9 d C7 (l2 : Nat) 0 2000 F9 (bytesOf L) w11 HD11.out (by omega) (by omega) HI9.out (fun q hq => Nat.lt_of_le_of_lt (HPS.out q hq) (by decide)) (by rw [HBL.out]; exact hdn) hx11).mono ?_
    rintro e w12 ⟨b12, rfl, C12, u12, F12, t12, hd12, ht12, hi12, hcc12, hm12⟩
    have hz12 := hm12.size
    have hvb12 : ¬ C12 vb := fun h => by
      rcases hcc12 vb h with h | h
      · exact hvb7 h
      · omega
    have hvd12 : ¬ C12 vd := fun h => by
      rcases hcc12 vd h with h | h
      · exact hvd7 h
      · omega
    have HX12 := Lib.hid (hm12.blk HX11.out (fun h => by rcases h with h | h; exact hvb7 h; omega))
    have HC12 := Lib.hid (hm12.blk HC11.out (fun h => by rcases h with h | h; exact hvd7 h; omega))
    have hk12 := HD11.out.keeps hm12
    have HBW12 := Lib.hid (HBW11.out.trans (hk12.mono (by omega)))
    have HV12 := Lib.hid ((hk12.block vl (by omega)).trans HV11.out)
    clear HV11
    have HD12 := Lib.hid hd12
    have HI12 := Lib.hid hi12
    have hx12 : w12.cell? ⟨vb, 0, none⟩ = some (.pointer (some ⟨a, 0, none⟩)) := by rw [cell_of_blk HX12.out]; rfl
    clear hd12 hi12 hcc12 hm12 hk12 HD11 HX11 HC11 HI9 hx11 hlt11 HBW11
    go_wp2_with (fail)
    have hncw12 : ¬ C12 w12.heap.size := fun h => by have := HD12.out.lt _ (.inl h); omega
    go_region_held3 (fun w' => w'.cell? ⟨vb, 0, none⟩ = some (.pointer (some ⟨a, 0, none⟩))) (first | exact hx14 | exact hx13 | exact hx12 | go_keep) ((first
      | (go_at_call 41; refine (choice4 more _).mono ?_; rintro e w13 ⟨rfl, hcell, hbv, hz13⟩; have hbx := ((Below.refl w12.heap.size w12).drew).trans hbv; have hx13 := cellk hbx (by show vb < w12.heap.size; omega) hx12; have HB13 := Lib.hid hbx; have HA := Lib.hid (asksChoice _ more C12 F12 w13 hcell hmore hncw12); clear hcell hbv hbx)
      | (go_at_call 40; refine (dsCrash _ _ _ C12 _ _ a pw2 _ _ _ _ _ (chB more) _ w13 (HD12.out.below HB13.out) HA.out (fun h => h) (chB_le more)).mono ?_; rintro e w14 ⟨rfl, ⟨t14, ht14, hd14⟩, _, hm14⟩; have hx14 := hm14.cellv hx13 (fun h => hvb12 (h.resolve_right id)); have HD14 := Lib.hid hd14; have HM14 := Lib.hid hm14; clear hd14 hm14)))
    have hz13 := HB13.out.size
    have hz14 := HM14.out.size
    have HI14 := Lib.hid (HI12.out.crash HD12.out.kept more)
    have HC14 := Lib.hid (HM14.out.blk ((HB13.out.block _ (by omega)).trans HC12.out) (fun h => hvd12 (h.resolve_right id)))
    have HX14 := Lib.hid (HM14.out.blk ((HB13.out.block _ (by omega)).trans HX12.out) (fun h => hvb12 (h.resolve_right id)))
    have hk14 : Below w1.heap.size w12 w14 := (HB13.out.mono (by omega)).trans (HM14.out.below (by omega) (fun g hg h => by have := HD12.out.base _ (h.resolve_right id); omega))
    have HB14' := Lib.hid (HBW12.out.trans (hk14.mono (by omega)))
    have HV14 := Lib.hid ((hk14.block vl (by omega)).trans HV12.out)
    clear HV12 HA HM14 HB13 HD12 HC12 HX12 hx12 hx13 hk14 HI12 hncw12
    obtain ⟨F14, hF14⟩ : ∃ F14, F14 = crashF F12 (chB more) := ⟨_, rfl⟩
    rw [← hF14] at HD14 HI14
    have HBW14 := HB14'
    clear hF14 HB14' HBW12
    have hnp14 : ¬ C12 w14.heap.size := fun h => by have := HD14.out.lt _ (.inl h); omega
    have hpB14 : w1.heap.size ≤ w14.heap.size := by omega
    go_wp2_with (fail)
    go_region_held3 (fun w' => w'.cell? ⟨vb, 0, none⟩ = some (.pointer (some ⟨a, 0, none⟩))) (first | exact hx16 | exact hx15 | exact hx14 | go_keep) ((first
      | (go_at_call 37; refine (newPower (-1) _).mono ?_; rintro e w15 ⟨rfl, hp, hb, hz15⟩; have hbx : Below w14.heap.size w14 w15 := ((Below.refl w14.heap.size w14).drew).trans hb; have hx15 := cellk hbx (by show vb < w14.heap.size; omega) hx14; have HB15 := Lib.hid hbx; have HP15 := Lib.hid hp; clear hp hb hbx)
      | (go_at_call 36; refine (dsPower w1.heap.size C12 (2 * n + 1) a pw2 t14 w14.heap.size _ _ 2000 (-1) 0 F14 w15 (HD14.out.below HB15.out) HP15.out hnp14 hpB14 (by omega) (by omega)).mono ?_; rintro e w16 ⟨rfl, hd, hm⟩; have hx16 := hm.cellv hx15 hvb12; have HD16 := Lib.hid hd; have HM16 := Lib.hid hm; clear hd hm)))
    obtain ⟨pw3, hpw3⟩ : ∃ pw3, pw3 = w14.heap.size := ⟨_, rfl⟩
    rw [← hpw3] at HD16 hnp14
    have hqpw3 : w14.heap.size ≤ pw3 := by omega
    clear hpw3
    have hz15 := HB15.out.size
    have hz16 := HM16.out.size
    have HC16 := Lib.hid (HM16.out.blk ((HB15.out.block _ (by omega)).trans HC14.out) hvd12)
    have HX16 := Lib.hid (HM16.out.blk ((HB15.out.block _ (by omega)).trans HX14.out) hvb12)
    have hk16 : Below w1.heap.size w14 w16 := (HB15.out.mono (by omega)).trans (HM16.out.below (by omega) (fun g hg h => by have := HD14.out.base _ h; omega))
    have HBW16 := Lib.hid (HBW14.out.trans (hk16.mono (by omega)))
    have HV16 := Lib.hid ((hk16.block vl (by omega)).trans HV14.out)
    clear HV14 hk16 HM16 HB15 HP15 HD14 HC14 HX14 hx14 hx15 HBW14
    go_wp2_with (fail)
    obtain ⟨hcx, N, hN1, hN2, hN3, hN4, hN5⟩ := HI14.out.open_ (fun q hq => Nat.lt_of_le_of_lt (HPS.out q hq) (by decide)) (by rw [HBL.out]; exact hdn)
    have hO : Calls Tryd.prog 31 #[.pointer (some ⟨a, 0, none⟩), .string ⟨[108, 111, 103].toArray⟩] w16 (RetOpenC w16 w1.heap.size C12 (2 * n + 1) a pw3 (-1) 2000 F14 [108, 111, 103]) := by
      cases hF : F14 [108, 111, 103] with
      | none => exact logOpen_noneC w1.heap.size (2 * n + 1) a pw3 t14 C12 (-1) 0 2000 F14 [108, 111, 103] w16 HD16.out (by omega) (by decide) hF
      | some x => exact logOpen_someC w1.heap.size (2 * n + 1) a pw3 t14 x.2 C12 (-1) 0 2000 F14 [108, 111, 103] x.1 w16 HD16.out (by omega) (by omega) (by decide) hF
    refine hO.mono ?_
    rintro e w17 ⟨p17, v17, C17, u17, t17, rfl, hd17, hc17, hm17, hp17, hpn17, hpc17, hps17⟩
    have ht17 := total_open HD16.out.tot hd17.tot
    rw [hN4] at hps17
    rw [HBL.out] at hN1
    have hlN : ((bytesOf L).take N).length = N := by rw [List.length_take, HBL.out]; omega
    have HPI := hps17
    obtain ⟨A17, c17, L17, rfl, hr17, hL17⟩ := hps17.rows
    rw [hlN] at HPI
    have HPI := Lib.hid HPI
    have hlt16 := HD16.out.lt
    have hsep : ∀ g, w16.heap.size ≤ g → ¬ TouchD C17 pw3 g := fun g hg h => by
      rcases h with h | h
      · have := hlt16 _ (.inl (hc17 g h)); omega
      · have := hlt16 pw3 (.inr rfl); omega
    have HSEP := Lib.hid hsep
    have hvb17 : ¬ C17 vb := fun h => hvb12 (hc17 vb h)
    clear hsep hlt16
    rw [hlN] at hr17 ⊢
    have hz17 := hm17.size
    have hpl17 := lt_of_heap hp17
    have hpp17 : p17 ≠ pw3 := fun h => by have := HD16.out.lt pw3 (.inr rfl); omega
    have hk17 := HD16.out.keeps hm17
    have HBW17 := Lib.hid (HBW16.out.trans (hk17.mono (by omega)))
    have HV17 := Lib.hid ((hk17.block vl (by omega)).trans HV16.out)
    have HC17 := Lib.hid (hm17.blk HC16.out (fun h => by rcases h with h | h; exact hvd12 h; omega))
    have HX17 := Lib.hid (hm17.blk HX16.out (fun h => by rcases h with h | h; exact hvb12 h; omega))
    have HD17 := Lib.hid hd17
    have HP17 := Lib.hid hp17
    have HR17 := Lib.hid hr17
    have HL17 := Lib.hid hL17
    have HH17 := Lib.hid hN5
    have v17 : w17.cell? ⟨vl, 0, none⟩ = some (.slice A n c) := by rw [cell_of_blk HV17.out]; rfl
    have d17 : w17.cell? ⟨vd, 0, none⟩ = some (.int .i64 (d : Nat)) := by rw [cell_of_blk HC17.out]; rfl
    have g1 : decide ((N : Int) < (d : Int)) = false := decide_eq_false (by omega)
    have g2 : min ((d : Int) + 1) (n : Int) = ((min (d + 1) n : Nat) : Int) := by omega
    have g3 : decide (((min (d + 1) n : Nat) : Int) < (N : Int)) = false := decide_eq_false (by omega)
    clear hO hd17 hc17 hm17 hp17 hps17 hr17 hL17 hk17 hcx hN4 hN5 HD16 HX16 HC16 HV16 HI14 hx16 HBW16
    go_wp2_with (fail)
    have hrl : RowsAt w17 w17.heap.size A N (L.take N) := ((HR.out.pre hN1).below HBW17.out).more HBW17.out.size
    have hbt : bytesOf (L.take N) = (bytesOf L).take N := by simp [bytesOf, List.map_take]
    have hq40 : ∀ q ∈ (bytesOf L).take N, q.length ≤ 40 := fun q hq => HPS.out q (List.mem_of_mem_take hq)
    refine (eqRows true A17 A N c17 N c _ _ L17 (L.take N) w17 HR17.out hrl (rows_le40 HR17.out (by rw [HL17.out]; exact hq40)) (rows_le40 hrl (by rw [hbt]; exact hq40)) (decide_eq_true (by rw [HL17.out, hbt])) (by omega)).mono ?_
    rintro e w18' ⟨rfl, q18, rfl⟩
    clear hrl hbt v17 d17 g1 g2 g3
    have hb18 := bdrewN (Below.refl w17.heap.size w17) q18
    have HD18 := Lib.hid (HD17.out.below hb18)
    have HP18 := Lib.hid (HP17.out.below hb18)
    have HX18 := Lib.hid ((hb18.block _ (by omega)).trans HX17.out)
    have HPI18 := Lib.hid (HPI.out.below hb18)
    have HBW18 := Lib.hid (HBW17.out.trans (hb18.mono (by have := HBW17.out.size; omega)))
    have hz18 := hb18.size
    have HQ40 := Lib.hid hq40
    clear hb18 HPI HD17 HP17 HR17 HV17 HC17 hq40
    generalize w17.drewN q18 = w18 at *
    go_wp2_with (fail)
    have hba := (Below.refl w18.heap.size w18).alloc (Nat.le_refl _) (.cells #[.int .u8 1, .int .u8 2] 5 (0, 0))
    have hra : Reads (w18.alloc (.cells #[.int .u8 1, .int .u8 2] 5 (0, 0))) (w18.alloc (.cells #[.int .u8 1, .int .u8 2] 5 (0, 0))).heap.size 1 (some ⟨w18.heap.size, 0, none⟩) 2 (bv [1, 2]) := reads_blk (heap_alloc_new w18 (.cells #[.int .u8 1, .int .u8 2] 5 (0, 0))) rfl
    have HD19 := Lib.hid (HD18.out.below hba)
    have HP19 := Lib.hid (HP18.out.below hba)
    have HX19 := Lib.hid ((hba.block _ (by omega)).trans HX18.out)
    have HPI19 := Lib.hid (HPI18.out.below hba)
    have HBW19 := Lib.hid (HBW18.out.trans (hba.mono (HBW18.out.size)))
    have hz19 := hba.size
    have HA19 := Lib.hid hra
    clear hba hra HD18 HP18 HPI18
    generalize w18.alloc (.cells #[.int .u8 1, .int .u8 2] 5 (0, 0)) = w19 at *
    obtain ⟨F17, hF17⟩ : ∃ F17, F17 = openF F14 [108, 111, 103] := ⟨_, rfl⟩
    rw [← hF17] at HD19 HH17
    clear hF17
    have hz119 : w1.heap.size ≤ w19.heap.size := HD19.out.size
    have hz1619 : w16.heap.size ≤ w19.heap.size := by omega
    refine (logAppend w1.heap.size (2 * n + 1 + 1) a pw3 t17 p17 w19.heap.size C17 (-1) u17 2000 F17 [108, 111, 103] [1, 2] _ 2 2 w19 HD19.out HP19.out hpc17 hpp17 (by omega) (by omega) (by decide) HA19.out (Nat.le_refl _) (by omega) (by omega)).mono ?_
    rintro e w20 ⟨rfl, C20, hd20, hc20, hm20, hb20⟩
    have hz20 := hm20.size
    have HX20 := Lib.hid (hm20.blk HX19.out (fun h => by rcases h with h | h; exact hvb17 h; omega))
    have hx20 : w20.cell? ⟨vb, 0, none⟩ = some (.pointer (some ⟨a, 0, none⟩)) := by rw [cell_of_blk HX20.out]; rfl
    have HD20 := Lib.hid hd20
    have HPI20 := Lib.hid (HPI19.out.mod hm20 HSEP.out)
    have HH20 := HH17.out.app [1, 2]
    have HBW20 := Lib.hid (HBW19.out.trans (hb20.mono (by omega)))
    obtain ⟨F20, hF20⟩ : ∃ F20, F20 = putF F17 [108, 111, 103] (dataF F17 [108, 111, 103] ++ wrapF [1, 2], (dataF F17 [108, 111, 103] ++ wrapF [1, 2]).length) := ⟨_, rfl⟩
    rw [← hF20] at HD20 HH20
    have HH20 := Lib.hid HH20
    have hlN1 : ((bytesOf L).take N ++ [[1, 2]]).length = N + 1 := by rw [List.length_append, hlN]; rfl
    have HLN1 := Lib.hid hlN1
    have HLN := Lib.hid hlN
    clear hd20 hc20 hm20 hb20 hF20 hlN1 hlN HD19 HP19 HA19 HPI19
    go_wp2_with (fail)
    refine (logOpen_full' w1.heap.size _ a pw3 _ C20 (-1) _ 2000 F20 [108, 111, 103] (N + 1) ((bytesOf L).take N ++ [[1, 2]]) w20 HD20.out (by decide) HH20.out (fun q hq => by
      rcases List.mem_append.1 hq with h | h
      · have := HQ40.out q h; omega
      · obtain rfl := List.mem_singleton.1 h; decide) HLN1.out).mono ?_
    rintro e w21 ⟨p21, A21, c21, L21, rfl, _, _, hr21, hL21, hb21, hc21⟩
    have hz21 := hb21.size
    have hp21 := HPI20.out.below hb21
    obtain ⟨A17', c17', L22, he, hr22, hL22⟩ := hp21.rows
    rw [HLN.out] at he hr22
    injection he with he1 _ he3
    subst he1 he3
    have HBW21 := Lib.hid (HBW20.out.trans (hb21.mono (HBW20.out.size)))
    obtain ⟨ad, rfl, had, hcl⟩ := hr21.1.2 (by omega)
    have hl21 : L21.length = N + 1 := hr21.len
    obtain ⟨x, hx⟩ : ∃ x, L21[N]? = some x := ⟨L21[N]'(by omega), List.getElem?_eq_getElem _⟩
    have e21 : w21.cell? (ad.add N) = some (.slice x.1 x.2.1 x.2.2.1) := hcl N (slV x) (by rw [List.getElem?_map, hx]; rfl)
    have rx := hr21.2 x (List.mem_of_getElem? hx)
    have hxb : x.2.2.2 = [1, 2] := by
      have h1 := bytesOf_get hx
      rw [hL21, List.getElem?_append_right (by rw [HLN.out]; exact Nat.le_refl _), HLN.out, Nat.sub_self] at h1
      exact (Option.some.inj h1).symm
    obtain ⟨xa, xn, xc, xb⟩ := x
    simp only at e21 rx hxb
    subst hxb
    obtain rfl : xn = 2 := by have := rx.1; rw [bv_length] at this; simp at this; omega
    have hpre := hr21.pre (k := N) (by omega)
    have hbp : bytesOf (L21.take N) = (bytesOf L).take N := by
      have : bytesOf (L21.take N) = (bytesOf L21).take N := by simp [bytesOf, List.map_take]
      rw [this, hL21, List.take_left' HLN.out]
    have HPRE := Lib.hid hpre
    have HR22 := Lib.hid hr22
    have HRX := Lib.hid rx
    have HBP := Lib.hid hbp
    have HL22 := Lib.hid hL22
    have i0 : (0 : Int) ≤ (N : Int) := by omega
    have i1 : (N : Int) < (N : Int) + 1 := by omega
    have i2 : (N : Int) ≤ (N : Int) + 1 := by omega
    have i3 : N ≤ c21 := by omega
    have i4 : (N : Int) ≤ (c21 : Int) := by omega
    have i5 : (((N + 1 : Nat) : Int) == (N : Int) + 1) = true := beq_iff_eq.2 (by push_cast; rfl)
    clear hr21 hL21 hb21 hp21 hr22 hL22 hcl hx hpre hbp rx hl21 HD20 HPI20
    go_wp2_with (fail)
    refine (eqRows true (some ad) A17 N c21 N c17 _ _ (L21.take N) L22 w21 HPRE.out HR22.out (rows_le40 HPRE.out (by rw [HBP.out]; exact HQ40.out)) (rows_le40 HR22.out (by rw [HL22.out]; exact HQ40.out)) (decide_eq_true (by rw [HBP.out, HL22.out])) (by omega)).mono ?_
    rintro e w22 ⟨rfl, q22, rfl⟩
    have hb22 := bdrewN (Below.refl w21.heap.size w21) q22
    have e22 : (w21.drewN q22).cell? (ad.add N) = some (.slice xa 2 xc) := e21
    have hz22 := hb22.size
    have HBW22 := Lib.hid (HBW21.out.trans (hb22.mono (HBW21.out.size)))
    have HRX22 := Lib.hid (HRX.out.below hb22)
    clear e21 hb22 HPRE HR22 HRX
    generalize w21.drewN q22 = w22 at *
    go_wp2_with (fail)
    have hba := (Below.refl w22.heap.size w22).alloc (Nat.le_refl _) (.cells #[.int .u8 1, .int .u8 2] 5 (0, 0))
    have hra : Reads (w22.alloc (.cells #[.int .u8 1, .int .u8 2] 5 (0, 0))) (w22.alloc (.cells #[.int .u8 1, .int .u8 2] 5 (0, 0))).heap.size 1 (some ⟨w22.heap.size, 0, none⟩) 2 (bv [1, 2]) := reads_blk (heap_alloc_new w22 (.cells #[.int .u8 1, .int .u8 2] 5 (0, 0))) rfl
    refine (equalBq true xa (some ⟨w22.heap.size, 0, none⟩) 2 xc 2 2 _ _ [1, 2] [1, 2] _ (HRX22.out.below (hba.mono (by omega))) hra (by omega) (by omega) (decide_eq_true rfl)).mono ?_
    rintro e w23 ⟨rfl, q23, rfl⟩
    go_wp2_with (fail)
    go_ret
    exact ⟨rfl, bdrewN (HBW22.out.trans (hba.mono (HBW22.out.size))) q23⟩
  · refine (light7 false A n c _ L w1 (HR.out.below HB1.out) hnb (decide_eq_false hlight)).mono ?_
    rintro e w1' ⟨rfl, hw1'⟩
    rw [hw1']
    clear hw1' w1'
    clear hlight
    go_wp2_with (fail)
    go_ret
    exact ⟨rfl, HB1.out⟩
end Go.Proofs.YtocgfcboigiigaaDoor
