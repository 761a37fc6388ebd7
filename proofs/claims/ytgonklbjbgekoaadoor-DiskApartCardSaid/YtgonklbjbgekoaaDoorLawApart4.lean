/- selionlaw04.DiskApart answers true, whatever the bytes. Condition: the package's variable 'none' holds what its text lays. -/
import Derived.Test.YtgonklbjbgekoaaDoorLawRoom
namespace Go.Proofs.YtgonklbjbgekoaaDoor
open Go Go.Proofs Go.RowKit

theorem set_own {B nb a pw t g j : Nat} {C : Nat → Prop} {l u room : Int} {F : Files} {w : World} (h : DS B w C nb a pw l u room F t) (hc : ¬ C g) (hp : g ≠ pw) (v : Value) : DS B (w.setCell ⟨g, j, none⟩ v) C nb a pw l u room F t :=
  h.mod (G := fun b => b = g) (Mod.setCell (F := fun b => b = g) (Mod.refl _ w) (p := ⟨g, j, none⟩) (fun _ => rfl) v) (fun _ hb e => hc (e ▸ hb)) (fun e => hp e.symm)
set_option maxHeartbeats 4000000 in
set_option maxRecDepth 10000 in
theorem apart_any (A0 : Option Addr) (n c0 x : Nat) (b0 : List UInt8) (w : World) (hn : NoneLaid w) (h0 : Reads w w.heap.size 1 A0 n (bv b0)) (hm0 : n ≤ 140737488355328) (hx : x < 256) :
    Calls Tryd.prog 3 #[.slice A0 n c0, .int .u8 x] w fun e w' => e = .returned (.bool true) ∧ Below w.heap.size w w' := by
  obtain ⟨i0, hi, hz0, hz1, hz2⟩ := info_parts info_u8
  have hl0 : b0.length = n := by have := h0.1; rw [bv_length] at this; omega
  have H0 := Lib.hid h0
  have HL0 := Lib.hid hl0
  clear h0 hl0
  by_cases hbig : 200 < n
  · have hg : decide ((200 : Int) < (n : Int)) = true := decide_eq_true (by omega)
    go_enter Tryd.func3, Tryd.ntmps3
    go_wp2_with (fail)
    refine (awake4_any w hn).mono ?_
    rintro e w1 ⟨rfl, hb1⟩
    clear hn
    go_wp2_with (fail)
    go_ret
    exact ⟨rfl, hb1⟩
  · have hg : decide ((200 : Int) < (n : Int)) = false := decide_eq_false (by omega)
    rcases Nat.eq_zero_or_pos n with rfl | hpos
    · go_enter Tryd.func3, Tryd.ntmps3
      go_wp2_with (fail)
      refine (awake4_any w hn).mono ?_
      rintro e w1 ⟨rfl, hb1⟩
      clear hn
      go_wp2_with (fail)
      go_ret
      exact ⟨rfl, hb1⟩
    · obtain ⟨j, hj⟩ : ∃ j : Nat, j = x % n := ⟨_, rfl⟩
      have hjn : j < n := by rw [hj]; exact Nat.mod_lt _ hpos
      have hj2 : (x : Int) % (n : Int) = (j : Int) := by rw [hj]; rfl
      have hne : ((n : Int) == 0) = false := by simp; omega
      have hnz : (n : Int) ≠ 0 := by omega
      have hj3 : (0 : Int) ≤ (j : Int) := by omega
      have hj4 : (j : Int) < (n : Int) := by omega
      clear hj
      go_enter Tryd.func3, Tryd.ntmps3
      go_wp2_with (fail)
      refine (awake4_any w hn).mono ?_
      rintro e w1 ⟨rfl, hb1⟩
      clear hn
      go_wp2_with (fail)
      refine (dsNew 1000 w1 (by omega) (by omega)).mono ?_
      rintro e w2 ⟨C2, a, pw, rfl, hd2, hb2⟩
      have hB := hb1.size
      have HB2 := Lib.hid (hb1.trans (hb2.mono hB))
      have HD2 := Lib.hid hd2
      clear hb2 hg hd2 hne
      go_wp2_with (fail)
      refine (cloneB A0 n c0 w.heap.size (bv b0) w2 (reads_below H0.out HB2.out) HB2.out.size (bv_one b0) (by omega)).mono ?_
      rintro e w3 ⟨v, rfl, hown, hb3⟩
      obtain ⟨y, hy⟩ : ∃ y, b0[j]? = some y := ⟨b0[j]'(by rw [HL0.out]; omega), List.getElem?_eq_getElem _⟩
      obtain ⟨g, c, rfl, hgl, hgc, hcell, hfr⟩ := (RowW.of_owns hown).at_ (bv_get hy)
      have hgb := owns_new_block hown g rfl
      have hrd := (RowW.of_owns hown).reads
      have hgC : ¬ C2 g := fun h => by have := HD2.out.lt g (.inl h); omega
      have hgp : g ≠ pw := fun h => by have := HD2.out.lt g (.inr h); omega
      have HB3 := Lib.hid (HB2.out.trans (hb3.mono HB2.out.size))
      have HD3 := Lib.hid (HD2.out.below hb3)
      have hw2 := HB2.out.size
      have HY := Lib.hid hy
      clear hown hb3 HD2 hy
      go_wp2_with (fail)
      refine (dsAppend _ _ C2 0 a pw 0 (-1) 0 1000 _ [120] b0 (some ⟨g, 0, none⟩) n c w3 HD3.out (by omega) (.inl (by omega)) (by decide) (by omega) hrd (Nat.le_refl _) (fun g' hg' _ => by
        have hg' : g = g' := by simpa using hg'
        subst hg'
        exact ⟨hgC, hgp⟩)).mono ?_
      rintro e w4 ⟨rfl, C4, hd4, hc4, hm4, hb4⟩
      have HD4 : Hid (DS w1.heap.size w4 C4 1 a pw (-1) 1 1000 (oneF [120] (b0, 0)) (0 + n)) := Lib.hid hd4
      have HB4 := Lib.hid (HB3.out.trans (hb4.mono hB))
      have hgC4 : ¬ C4 g := fun h => by
        rcases hc4 g h with h' | h'
        · exact hgC h'
        · omega
      have hcell4 : w4.cell? ⟨g, j, none⟩ = some (.int .u8 y.toNat) := hm4.cellv hcell (fun h => h.elim hgC hgp)
      have hfr4 : w4.frozen? ⟨g, j, none⟩ = false := (hm4.frozen (p := ⟨g, j, none⟩) hgl (fun h => h.elim hgC hgp)).trans hfr
      clear hd4 hb4 hm4 hc4 hcell hfr hrd HD3 HB3
      go_wp2_with (fail)
      refine (dsReadN n _ C4 _ a pw _ _ _ _ _ [120] b0 0 _ (set_own HD4.out hgC4 hgp _) (by decide) (oneF_same _ _) HL0.out).mono ?_
      rintro e w6 ⟨A6, c6, rfl, hrow6, hown6, hb6⟩
      obtain ⟨g6, c6', e6, hg6l, hc6, hcell6, hfr6⟩ := hrow6.at_ (bv_get HY.out)
      injection e6 with e6 _ e6'
      subst e6
      subst e6'
      have hs6 := hb6.size
      have hg6 := hown6 g6 rfl
      rw [World.size_setCell] at hs6 hg6
      have hgC6 : ¬ C4 g6 := fun h => by have := HD4.out.lt g6 (.inl h); omega
      have hgp6 : g6 ≠ pw := fun h => by have := HD4.out.lt g6 (.inr h); omega
      have HD6 := Lib.hid ((set_own HD4.out hgC4 hgp _).below hb6)
      have HB6 := Lib.hid ((HB4.out.setCell (p := ⟨g, j, none⟩) (by show w.heap.size ≤ g; omega) _).trans (hb6.mono (by rw [World.size_setCell]; exact HB4.out.size)))
      have hr6 := hrow6.reads
      have hw4 := HB4.out.size
      clear hcell4 hfr4 hown6 hb6 HD4 HB4 hrow6
      go_wp2_with (fail)
      refine (equalB true (some ⟨g6, 0, none⟩) A0 n c6 n c0 _ _ b0 b0 w6 hr6 (reads_below H0.out HB6.out) (by omega) (by omega) (decide_eq_true rfl)).mono ?_
      rintro e w7 ⟨rfl, hb7⟩
      have hs7 := hb7.size
      have hcell7 : w7.cell? ⟨g6, j, none⟩ = some (.int .u8 y.toNat) := (hb7.cell (p := ⟨g6, j, none⟩) hg6l).trans hcell6
      have hfr7 : w7.frozen? ⟨g6, j, none⟩ = false := ((Mod.of_below (F := fun _ => False) hb7).frozen (p := ⟨g6, j, none⟩) hg6l (fun h => h)).trans hfr6
      have HD7 := Lib.hid (HD6.out.below hb7)
      have HB7 := Lib.hid (HB6.out.trans (hb7.mono HB6.out.size))
      have HC := fun (u : Value) => dsAppendFresh w1.heap.size C4 1 a pw (0 + n) (-1) 1 1000 _ [120] [1] 1 1 #[.int .u8 1] (0, 0) (w7.setCell ⟨g6, j, none⟩ u) (set_own HD7.out hgC6 hgp6 u) (by simp [bv, byteV]) rfl (by omega) (.inl (by omega)) (by decide) (by omega)
      simp only [World.size_setCell] at HC
      have HC := Lib.hid HC
      clear hcell6 hfr6 HD6 HB6 hr6 hb7
      go_wp2_with (fail)
      refine (HC.out _).mono ?_
      rintro e w8 ⟨rfl, C8, hd8, hb8⟩
      rw [oneF_append] at hd8
      have HB8 := Lib.hid ((HB7.out.setCell (p := ⟨g6, j, none⟩) (by show w.heap.size ≤ g6; omega) _).trans (hb8.mono hB))
      have HD8 := Lib.hid hd8
      clear hd8 hb8 HD7 hcell7 hfr7 HC
      go_wp2_with (fail)
      refine (dsReadN (n + 1) _ C8 _ a pw _ _ _ _ _ [120] (b0 ++ [1]) 0 w8 HD8.out (by decide) (oneF_same _ _) (by rw [List.length_append, HL0.out]; rfl)).mono ?_
      rintro e w9 ⟨A9, c9, rfl, hrow9, hown9, hb9⟩
      have HB9 := Lib.hid (HB8.out.trans (hb9.mono HB8.out.size))
      have HR9 := Lib.hid hrow9
      clear hown9 hb9 hrow9
      go_wp2_with (fail)
      refine (cloneB A0 n c0 w.heap.size (bv b0) w9 (reads_below H0.out HB9.out) HB9.out.size (bv_one b0) (by omega)).mono ?_
      rintro e wa ⟨v, rfl, howna, hba⟩
      have hblk := owns_new_block howna
      have hrowa := RowW.of_owns howna
      obtain ⟨Aa, ca, rfl, hca⟩ := hrowa.form
      have HRA := Lib.hid (hrowa.alloc (.cells #[.int .u8 1] 5 (0, 0)))
      have HR9a := Lib.hid ((HR9.out.below hba).alloc (.cells #[.int .u8 1] 5 (0, 0)))
      have hlt9 : ∀ g, (Value.slice A9 (n + 1) c9).ownBlock = some g → ¬ ((Value.slice Aa n ca).ownBlock = some g) := fun g hg h => by
        have h1 := HR9.out.lt hg
        have h2 := hblk g h
        omega
      have HLT := Lib.hid hlt9
      have hrd1 : Reads (wa.alloc (.cells #[.int .u8 1] 5 (0, 0))) _ 1 (some ⟨wa.heap.size, 0, none⟩) 1 (bv [1]) := reads_new [1] (g := wa.heap.size) (t := 5) (fr := (0, 0)) (by rw [show (bv [1]).toArray = #[.int .u8 1] from by simp [bv, byteV]]; exact heap_alloc_new _ _) rfl
      have HRD := Lib.hid hrd1
      have hba2 : Below w9.heap.size w9 (wa.alloc (.cells #[.int .u8 1] 5 (0, 0))) := hba.alloc hba.size _
      have HBA := Lib.hid (HB9.out.trans (hba2.mono HB9.out.size))
      have HBK := Lib.hid (fun g hg => Nat.le_trans HB9.out.size (hblk g hg))
      clear howna hrowa hrd1 hlt9 hba2 hba hblk HR9
      go_wp2_with (first
        | (at_builtin; (refine wpList_append_rowW _ rfl (.tmp 68) (.tmp 69) 22 rfl 5 i0 (.int .u8 0) 1 Tryd.underlying22 hi hz0 hz1 hz2 rfl (.slice Aa n ca) n (bv b0) rfl HRA.out _ (some ⟨wa.heap.size, 0, none⟩) 1 1 (bv [1]) rfl HRD.out (bv_one [1]) (by unfold maxLen; omega) (by omega) ?_; intro v5 w5 hrow5 hgr5 hat5; obtain ⟨A5, c5, rfl, hc5⟩ := hrow5.form; rw [← bv_append] at hrow5))
        | (go_at_call 19; refine (equalB true A9 A5 (n + 1) c9 (n + 1) c5 _ _ (b0 ++ [1]) (b0 ++ [1]) w5 (HR9a.out.mod (Mod.grown (F := fun b => (Value.slice Aa n ca).ownBlock = some b) (Mod.refl _ _) hgr5 (fun g hg _ => hg)) (fun g hg => HLT.out g hg)).reads hrow5.reads (by omega) (by omega) (decide_eq_true rfl)).mono ?_; rintro e wf ⟨rfl, hbf⟩))
      go_ret
      have hend := HBA.out.grown hgr5 HBA.out.size (fun j hj => HBK.out j hj)
      exact ⟨rfl, hend.trans (hbf.mono hend.size)⟩
end Go.Proofs.YtgonklbjbgekoaaDoor
