/- wal.Open of a file that is whole, and kept: nothing is changed. Condition: the disk is as told. -/
import Derived.Test.YtocgfcboigiigaaDoorWal
namespace Go.Proofs.YtocgfcboigiigaaDoor
open Go Go.Proofs Go.RowKit

/-- What is split is what its pieces come to, from the first one on. -/
theorem splitF_take : ∀ (k : Nat) (bs : List UInt8), bs.length ≤ k → bs.take (splitF bs).2 = rowsF (splitF bs).1 := by
  intro k
  induction k with
  | zero =>
    intro bs h
    have hb : bs = [] := List.length_eq_zero_iff.1 (by omega)
    rw [hb, splitF_none (by decide)]
    rfl
  | succ k ih =>
    intro bs h
    cases hs : split1 bs with
    | none => rw [splitF_none hs]; rfl
    | some x =>
      obtain ⟨p, r⟩ := x
      obtain ⟨hl, hr⟩ := split1_len hs
      have h1 := ih r (by omega)
      rw [splitF_some hs, rowsF_cons, ← h1]
      simp only
      rw [List.take_add, ← hr]
      congr 1
      unfold split1 at hs
      split at hs
      · rename_i hc
        obtain ⟨c1, c2, c3⟩ := hc
        injection hs with hs
        injection hs with e1 e2
        subst e1
        have hpl : ((bs.drop 8).take (num4 bs)).length = num4 bs := by rw [List.length_take, List.length_drop]; omega
        unfold wrapF
        rw [hpl, c3, show 8 + num4 bs = 4 + (4 + num4 bs) by omega, List.take_add, four_num4 (by omega), List.take_add, four_num4 (by rw [List.length_drop]; omega), List.drop_drop, List.append_assoc]
      · cases hs
theorem splitF_small40 : ∀ (k : Nat) (bs : List UInt8), bs.length ≤ k → (∀ p ∈ (splitF bs).1, p.length ≤ bs.length) ∧ (splitF bs).1.length ≤ bs.length := by
  intro k
  induction k with
  | zero =>
    intro bs h
    have hb : bs = [] := List.length_eq_zero_iff.1 (by omega)
    rw [hb, splitF_none (by decide)]
    exact ⟨fun p hp => (by cases hp), Nat.le_refl _⟩
  | succ k ih =>
    intro bs h
    cases hs : split1 bs with
    | none => rw [splitF_none hs]; exact ⟨fun p hp => (by cases hp), Nat.zero_le _⟩
    | some x =>
      obtain ⟨p, r⟩ := x
      have hl := (split1_len hs).1
      obtain ⟨h1, h2⟩ := ih r (by omega)
      rw [splitF_some hs]
      refine ⟨fun q hq => ?_, by simp only [List.length_cons]; omega⟩
      simp only [List.mem_cons] at hq
      rcases hq with rfl | hq
      · omega
      · have := h1 q hq; omega
theorem rows_leN {w : World} {B n k : Nat} {A : Option Addr} {L : BL} (h : RowsAt w B A n L) (hb : ∀ p ∈ bytesOf L, p.length ≤ k) : ∀ x ∈ L, x.2.1 ≤ k := fun x hx => by
  have h1 := (h.2 x hx).1
  rw [bv_length] at h1
  have h2 := hb x.2.2.2 (List.mem_map_of_mem hx)
  omega
/-- A log is answered, and the pieces of its file; nothing older is touched. -/
def RetFull (w : World) (a : Nat) (k : Txt) (m : Nat) (ps : List (List UInt8)) (e : Ending) (w' : World) : Prop :=
  ∃ (p : Nat) (A : Option Addr) (c : Nat) (L : BL), e = .returned (.tuple #[.pointer (some ⟨p, 0, none⟩), .slice A m c, .int .i64 0]) ∧ LogAt w' p a k ∧ w.heap.size ≤ p ∧ RowsAt w' w'.heap.size A m L ∧ bytesOf L = ps ∧ Below w.heap.size w w' ∧ m ≤ c
set_option maxHeartbeats 4000000 in
set_option maxRecDepth 100000 in
theorem logOpen_full (B nb a pw t : Nat) (C : Nat → Prop) (l u room : Int) (F : Files) (k : Txt) (m : Nat) (ps : List (List UInt8)) (w : World) (h : DS B w C nb a pw l u room F t) (hk : k.length ≤ maxLen) (hF : F k = some (rowsF ps, (rowsF ps).length)) (hp : ∀ p ∈ ps, p.length ≤ 1000000) (hm : ps.length = m) :
    Calls Tryd.prog 31 #[.pointer (some ⟨a, 0, none⟩), .string ⟨k.toArray⟩] w (RetFull w a k m ps) := by
  have hsp := splitF_all ps (fun p hp' => Nat.lt_of_le_of_lt (hp p hp') (by decide))
  obtain ⟨bs, hbs⟩ : ∃ bs, bs = rowsF ps := ⟨_, rfl⟩
  rw [← hbs] at hF hsp
  have hln : bs.length ≤ 1000000 := by
    have h1 := h.tot.one k
    have h2 : lenF F k = bs.length := by simp [lenF, hF]
    have := h.t1
    have := h.r1
    omega
  have HD := Lib.hid h
  have HF := Lib.hid hF
  have HSP := Lib.hid hsp
  have HM := Lib.hid hm
  clear h hF hsp hbs hm
  obtain ⟨len, hlen⟩ : ∃ len, len = bs.length := ⟨_, rfl⟩
  rw [← hlen] at hln
  have HLEN := Lib.hid hlen
  clear hlen
  go_enter Tryd.func31, Tryd.ntmps31
  go_wp2_with (fail)
  have hb1 := (Below.refl w.heap.size w).alloc (Nat.le_refl _) (.cells #[.pointer (some ⟨a, 0, none⟩), .string ⟨k.toArray⟩] 80 (0, 0))
  have hp1 : LogAt (w.alloc (.cells #[.pointer (some ⟨a, 0, none⟩), .string ⟨k.toArray⟩] 80 (0, 0))) w.heap.size a k := heap_alloc_new _ _
  have hs1 : (w.alloc (.cells #[.pointer (some ⟨a, 0, none⟩), .string ⟨k.toArray⟩] 80 (0, 0))).heap.size = w.heap.size + 1 := World.size_alloc _ _
  have HD1 := Lib.hid (HD.out.below hb1)
  generalize w.alloc (.cells #[.pointer (some ⟨a, 0, none⟩), .string ⟨k.toArray⟩] 80 (0, 0)) = w1 at *
  refine (dsRead B C nb a pw t l u room F k bs bs.length w1 HD1.out hk HF.out).mono ?_
  rintro e w2 ⟨v, A2, c2, rfl, rfl, hrow2, _, hb2⟩
  rw [← HLEN.out] at hrow2 ⊢
  have hc2 : len ≤ c2 := by
    obtain ⟨_, _, e2, h2⟩ := hrow2.form
    injection e2 with _ _ e2
    omega
  have hz2 := hb2.size
  have hp2 := hp1.below hb2
  have HD2 := Lib.hid (HD1.out.below hb2)
  have HB2 := Lib.hid (hb1.trans (hb2.mono (by omega)))
  have HR2 := Lib.hid hrow2.reads
  clear hrow2 hb2 hp1 hb1 HD1
  go_wp2_with (fail)
  refine (splitC A2 len c2 _ bs w2 HR2.out (Nat.le_refl _) (by omega) hc2).mono ?_
  rintro e w3 ⟨v3, rfl, hpc3, hb3⟩
  rw [HSP.out]
  rw [HSP.out] at hpc3
  simp only at hpc3
  simp only [← HLEN.out]
  obtain ⟨A3, c3, L3, rfl, hr3, hL3⟩ := hpc3.rows
  have hcm : ps.length ≤ c3 := by
    obtain ⟨_, _, e2, h2⟩ := hpc3.form
    injection e2 with _ _ e2
    omega
  rw [HM.out] at hr3 hcm ⊢
  have hz3 := hb3.size
  have hp3 := hp2.below hb3
  have HD3 := Lib.hid (HD2.out.below hb3)
  have HB3 := Lib.hid (HB2.out.trans (hb3.mono (by omega)))
  have HR3 := Lib.hid hr3
  have HL3 := Lib.hid hL3
  clear hpc3 hb3 hp2 HD2 HB2 hr3 hL3
  have hgd : decide (len < len) = false := decide_eq_false (Nat.lt_irrefl _)
  go_wp2_with (fail)
  refine (dsKept B C nb a pw t l u room F k w3 HD3.out hk).mono ?_
  rintro e w4 ⟨rfl, rfl⟩
  have hkf : keptF F k = len := by simp [keptF, HF.out]; exact HLEN.out.symm
  rw [hkf]
  clear hkf
  go_wp2_with (fail)
  refine bodyPost_ret (v := .tuple #[.pointer (some ⟨w.heap.size, 0, none⟩), .slice A3 m c3, .int .i64 0]) (by simp [results, Tryd.results31, go_sem, *]) rfl ?_
  exact ⟨_, A3, c3, L3, rfl, hp3, Nat.le_refl _, HR3.out, HL3.out, HB3.out, hcm⟩
/-- The same, of a file that may not be there. -/
theorem logOpen_full' (B nb a pw t : Nat) (C : Nat → Prop) (l u room : Int) (F : Files) (k : Txt) (m : Nat) (ps : List (List UInt8)) (w : World) (h : DS B w C nb a pw l u room F t) (hk : k.length ≤ maxLen) (hh : LogHas F k ps) (hp : ∀ p ∈ ps, p.length ≤ 1000000) (hm : ps.length = m) :
    Calls Tryd.prog 31 #[.pointer (some ⟨a, 0, none⟩), .string ⟨k.toArray⟩] w (RetFull w a k m ps) := by
  rcases hh with ⟨hF, rfl⟩ | hF
  · obtain rfl : m = 0 := hm.symm
    refine (logOpen_new B nb a pw t C l u room F k w h hk hF).mono ?_
    rintro e w' ⟨rfl, h1, h2⟩
    exact ⟨_, none, 0, [], rfl, h1, Nat.le_refl _, ⟨Reads.none_, fun x hx => by cases hx⟩, rfl, h2, Nat.le_refl _⟩
  · exact logOpen_full B nb a pw t C l u room F k m ps w h hk hF hp hm
end Go.Proofs.YtocgfcboigiigaaDoor
