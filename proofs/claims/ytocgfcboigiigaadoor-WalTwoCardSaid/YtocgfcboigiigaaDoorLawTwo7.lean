/- selionlaw07.WalTwo answers true, whatever the pieces, the turns. Condition: the package's variable 'none' holds what its text lays. -/
import Derived.Test.YtocgfcboigiigaaDoorWalF
namespace Go.Proofs.YtocgfcboigiigaaDoor
open Go Go.Proofs Go.RowKit

theorem and16 (t k : Nat) (ht : t < 65536) : bits .and .u16 ((t : Int) / 2 ^ k) 1 = ((t / 2 ^ k % 2 : Nat) : Int) := by
  have e : ((t : Int) / 2 ^ k) = ((t / 2 ^ k : Nat) : Int) := by push_cast; rfl
  have hle : t / 2 ^ k ≤ t := Nat.div_le_self _ _
  rw [e]
  obtain ⟨x, hx⟩ : ∃ x, x = t / 2 ^ k := ⟨_, rfl⟩
  rw [← hx] at hle ⊢
  show IntKind.u16.wrap ((BitVec.ofInt 16 (x : Int) &&& BitVec.ofInt 16 1).toNat : Int) = _
  rw [BitVec.toNat_and]
  have e1 : (BitVec.ofInt 16 (x : Int)).toNat = x := by rw [BitVec.toNat_ofInt]; omega
  have e2 : (BitVec.ofInt 16 1).toNat = 1 := by decide
  rw [e1, e2, Nat.and_one_is_mod]
  exact IntWalk.u16_in _ (by omega)
theorem blk_grown {w w' : World} {g : Nat} {o : Obj} {row : Option Nat} (h : w.heap[g]? = some o) (hg : w.grownBy w' row) (hr : row ≠ some g) : w'.heap[g]? = some o :=
  (hg.block g (lt_of_heap h) (fun e => hr e.symm)).trans h
set_option maxHeartbeats 8000000 in
set_option maxRecDepth 100000 in
theorem two7 (A : Option Addr) (n c turns : Nat) (L : BL) (w : World) (hn : NoneLaid w) (hr : RowsAt w w.heap.size A n L) (hnb : n ≤ 9223372036854775807) (htu : turns < 65536) :
    Calls Tryd.prog 9 #[.slice A n c, .int .u16 turns] w fun e w' => e = .returned (.bool true) ∧ Below w.heap.size w w' := by
  have hl := hr.len
  have HR := Lib.hid hr
  have HL := Lib.hid hl
  clear hr hl
  go_enter Tryd.func9, Tryd.ntmps9
  go_wp2_with (fail)
  refine (awake7_any w hn).mono ?_
  rintro e w1 ⟨rfl, hb1⟩
  clear hn
  have hz1 := hb1.size
  have HB1 := Lib.hid hb1
  clear hb1
  go_wp2_with (fail)
  by_cases hlight : (∀ x ∈ L, x.2.1 ≤ 40) ∧ n ≤ 12
  · refine (light7 true A n c _ L w1 (HR.out.below HB1.out) hnb (decide_eq_true hlight)).mono ?_
    rintro e w1' ⟨rfl, hw1'⟩
    rw [hw1']
    clear hw1' w1'
    obtain ⟨h40, hs1⟩ := hlight
    have H40 := Lib.hid h40
    clear h40
    go_wp2_with (fail)
    refine (dsNew 3000 w1 (by omega) (by omega)).mono ?_
    rintro e w2 ⟨C, a, pw, rfl, hd, hb2⟩
    have hz2 := hb2.size
    have hlt := hd.lt
    have HD := Lib.hid hd
    have HB2 := Lib.hid (HB1.out.trans (hb2.mono hz1))
    clear hd hb2
    go_wp2_with (fail)
    refine (logOpen_new w1.heap.size 0 a pw 0 C (-1) 0 3000 (fun _ => none) [97] w2 HD.out (by decide) rfl).mono ?_
    rintro e w3 ⟨rfl, hp3, hb3⟩
    have hz3 := hb3.size
    have hpl3 := lt_of_heap hp3
    have hpc : ¬ C w2.heap.size := fun h => Nat.lt_irrefl _ (hlt _ (.inl h))
    have hpp : w2.heap.size ≠ pw := fun h => by have := hlt pw (.inr rfl); omega
    have HD3 := Lib.hid (HD.out.below hb3)
    have HP3 := Lib.hid hp3
    have HB3 := Lib.hid (HB2.out.trans (hb3.mono (by omega)))
    obtain ⟨p, hpe⟩ : ∃ p, p = w2.heap.size := ⟨_, rfl⟩
    have hpw : w2.heap.size ≤ p := by omega
    rw [← hpe] at HP3 hpc hpp hpl3 ⊢
    clear hp3 hb3 hpe
    go_wp2_with (fail)
    refine (logOpen_new w1.heap.size 0 a pw 0 C (-1) 0 3000 (fun _ => none) [98] w3 HD3.out (by decide) rfl).mono ?_
    rintro e w4 ⟨rfl, hp4, hb4⟩
    have hz4 := hb4.size
    have hlt3 := HD3.out.lt
    have hpc4 : ¬ C w3.heap.size := fun h => Nat.lt_irrefl _ (hlt3 _ (.inl h))
    have hpp4 : w3.heap.size ≠ pw := fun h => by have := hlt3 pw (.inr rfl); omega
    have HD4 := Lib.hid (HD3.out.below hb4)
    have HP4 := Lib.hid hp4
    have HQ4 := Lib.hid (HP3.out.below hb4)
    have HB4 := Lib.hid (HB3.out.trans (hb4.mono (by omega)))
    obtain ⟨q, hqe⟩ : ∃ q, q = w3.heap.size := ⟨_, rfl⟩
    have hpq : p ≠ q := by omega
    rw [← hqe] at HP4 hpc4 hpp4 ⊢
    clear hp4 hb4 hqe
    go_wp2_with (fail)
    have hbv := (Below.refl w4.heap.size w4).alloc (Nat.le_refl _) (.cells #[.slice none 0 0, .slice none 0 0] 50 (0, 0))
    have hvb : (w4.alloc (.cells #[.slice none 0 0, .slice none 0 0] 50 (0, 0))).heap[w4.heap.size]? = some (.cells #[.slice none 0 0, .slice none 0 0] 50 (0, 0)) := heap_alloc_new _ _
    have hlt4 := HD4.out.lt
    have hpl4 := lt_of_heap HP4.out
    have hql4 := lt_of_heap HQ4.out
    obtain ⟨vb, hvbe⟩ : ∃ vb, vb = w4.heap.size := ⟨_, rfl⟩
    have hvc : ¬ C vb := fun h => by have := hlt4 _ (.inl h); omega
    have hvp : vb ≠ pw := fun h => by have := hlt4 pw (.inr rfl); omega
    have hvp1 : vb ≠ p := by omega
    have hvp2 : vb ≠ q := by omega
    have HDV := Lib.hid (HD4.out.below hbv)
    have HPV := Lib.hid (HP4.out.below hbv)
    have HQV := Lib.hid (HQ4.out.below hbv)
    have HBV := Lib.hid (HB4.out.trans (hbv.mono (by omega)))
    have hzv : w1.heap.size ≤ vb := by omega
    rw [← hvbe] at hvb ⊢
    have HVB := Lib.hid hvb
    clear hbv hvb hvbe hlt hlt3 hlt4 HD HD3 HD4 HP3 HP4 HQ4
    generalize w4.alloc (.cells #[.slice none 0 0, .slice none 0 0] 50 (0, 0)) = wv at *
    go_loopw [54] (fun i wr => ∃ (k : Nat) (L0 L1 : BL) (A0 : Option Addr) (d0 : Nat) (A1 : Option Addr) (d1 : Nat) (C' : Nat → Prop) (u' : Int) (F' : Files) (t' : Nat), k ≤ n ∧ i = .int .i64 k ∧ L0.length + L1.length ≤ k ∧ t' ≤ 48 * k ∧ Hid (∀ x, x ∈ L0 ∨ x ∈ L1 → x ∈ L) ∧ Hid (wr.heap[vb]? = some (.cells #[.slice A0 L0.length d0, .slice A1 L1.length d1] 50 (0, 0))) ∧ Hid (wr.ownsRow w1.heap.size 22 1 (.slice A0 L0.length d0) L0.length (L0.map slV)) ∧ Hid (wr.ownsRow w1.heap.size 22 1 (.slice A1 L1.length d1) L1.length (L1.map slV)) ∧ Hid (DS w1.heap.size wr C' (2 * k) a pw (-1) u' 3000 F' t') ∧ Hid (LogHas F' [97] (bytesOf L0)) ∧ Hid (LogHas F' [98] (bytesOf L1)) ∧ Hid (LogAt wr p a [97]) ∧ Hid (LogAt wr q a [98]) ∧ Hid (∀ g, (Value.slice A0 L0.length d0).ownBlock = some g → ¬ C' g ∧ g ≠ pw ∧ g ≠ p ∧ g ≠ q ∧ g ≠ vb ∧ (Value.slice A1 L1.length d1).ownBlock ≠ some g) ∧ Hid (∀ g, (Value.slice A1 L1.length d1).ownBlock = some g → ¬ C' g ∧ g ≠ pw ∧ g ≠ p ∧ g ≠ q ∧ g ≠ vb ∧ (Value.slice A0 L0.length d0).ownBlock ≠ some g) ∧ Hid (¬ C' p ∧ ¬ C' q ∧ ¬ C' vb) ∧ Hid (Below w.heap.size w wr)) (fun i _ => n - (intOf i).toNat)
    case atStart => exact ⟨0, [], [], none, 0, none, 0, C, 0, _, 0, Nat.zero_le _, rfl, Nat.le_refl _, by omega, Lib.hid (fun x hx => by rcases hx with hx | hx <;> cases hx), HVB, Lib.hid (World.ownsRow_nil _ _ _ _), Lib.hid (World.ownsRow_nil _ _ _ _), HDV, Lib.hid (.nil rfl), Lib.hid (.nil rfl), HQV, HPV, Lib.hid (fun g h => by cases h), Lib.hid (fun g h => by cases h), Lib.hid ⟨hpc, hpc4, hvc⟩, HBV⟩
    case round =>
      obtain ⟨k, L0, L1, A0, d0, A1, d1, C', u', F', t', hk, rfl, hlk, htk, HLQ, HVR, HO0, HO1, HDR, HH0, HH1, HP0, HP1, HS0, HS1, HPC, HBR⟩ := hrel
      have hzr : w1.heap.size ≤ wr.heap.size := HDR.out.size
      obtain ⟨wo, rfl⟩ : ∃ wo : World, wo = wr := ⟨_, rfl⟩
      obtain ⟨m0, hm0⟩ : ∃ m0, m0 = L0.length := ⟨_, rfl⟩
      obtain ⟨m1, hm1⟩ : ∃ m1, m1 = L1.length := ⟨_, rfl⟩
      rw [← hm0] at HVR HO0 HS0 HS1 hlk
      rw [← hm1] at HVR HO1 HS0 HS1 hlk
      have HM0 := Lib.hid hm0
      have HM1 := Lib.hid hm1
      have hv0 : wo.cell? ⟨vb, 0, none⟩ = some (.slice A0 m0 d0) := by rw [cell_of_blk HVR.out]; rfl
      have hv1 : wo.cell? ⟨vb, 1, none⟩ = some (.slice A1 m1 d1) := by rw [cell_of_blk HVR.out]; rfl
      have hvl := lt_of_heap HVR.out
      clear hm0 hm1
      by_cases hlt : k < n
      · obtain ⟨x, hx⟩ : ∃ x, L[k]? = some x := ⟨L[k]'(by rw [HL.out]; exact hlt), List.getElem?_eq_getElem _⟩
        obtain ⟨ad, rfl, had, hc⟩ := HR.out.1.2 (by omega)
        have e0 : wo.cell? (ad.add k) = some (.slice x.1 x.2.1 x.2.2.1) := cellk HBR.out (by rw [block_of_add]; exact had) (hc k (slV x) (by rw [List.getElem?_map, hx]; rfl))
        have h40 := H40.out x (List.mem_of_getElem? hx)
        have R0 := Lib.hid ((HR.out.2 x (List.mem_of_getElem? hx)))
        have HX := Lib.hid hx
        obtain ⟨a1, n1, c1, y⟩ := x
        simp only at e0 R0 h40
        have hin0 : (0 : Int) ≤ (k : Int) := by omega
        have hin1 : (k : Int) < (n : Int) := by omega
        have hbit := and16 turns k htu
        clear hx hc
        by_cases hb : turns / 2 ^ k % 2 = 0
        · have hbit0 : Go.bits BinOp.and .u16 ((turns : Int) / 2 ^ k) 1 = 0 := by rw [hbit, hb]; rfl
          clear hbit hb
          go_wp2_with (fail)
          have hba := (Below.refl wo.heap.size wo).alloc (Nat.le_refl _) (.cells #[.pointer (some ⟨p, 0, none⟩), .pointer (some ⟨q, 0, none⟩)] 46 (0, 0))
          have hpl0 := lt_of_heap HP0.out
          have hpl1 := lt_of_heap HP1.out
          have hol0 := HO0.out.lt
          have hol1 := HO1.out.lt
          have hsa := World.size_alloc wo (.cells #[.pointer (some ⟨p, 0, none⟩), .pointer (some ⟨q, 0, none⟩)] 46 (0, 0))
          have HDa := Lib.hid (HDR.out.below hba)
          have HPa0 := Lib.hid (HP0.out.below hba)
          have HPa1 := Lib.hid (HP1.out.below hba)
          have HVa := Lib.hid ((hba.block _ hvl).trans HVR.out)
          have HOa0 := Lib.hid (owns_bel HO0.out hba)
          have HOa1 := Lib.hid (owns_bel HO1.out hba)
          have HBa := Lib.hid (HBR.out.trans (hba.mono (by omega)))
          clear hba HDR HP0 HP1 HVR HO0 HO1 HBR hv0 hv1 e0
          generalize wo.alloc (.cells #[.pointer (some ⟨p, 0, none⟩), .pointer (some ⟨q, 0, none⟩)] 46 (0, 0)) = wa at *
          refine (logAppend w1.heap.size (2 * k) a pw t' p w.heap.size C' (-1) u' 3000 F' [97] y a1 n1 c1 wa HDa.out HPa0.out HPC.out.1 hpp (by omega) (by omega) (by decide) (R0.out.below HBa.out) (HBa.out.size) (by omega) (by omega)).mono ?_
          rintro e w5 ⟨rfl, C5, hd5, hc5, hm5, hb5⟩
          have hz5 := hm5.size
          have HO50 := Lib.hid (owns_modv HOa0.out hm5 (fun g hg h => h.elim (HS0.out g hg).1 (HS0.out g hg).2.1))
          have HO51 := Lib.hid (owns_modv HOa1.out hm5 (fun g hg h => h.elim (HS1.out g hg).1 (HS1.out g hg).2.1))
          have HP50 := Lib.hid (HPa0.out.mod hm5 (fun h => h.elim HPC.out.1 hpp))
          have HP51 := Lib.hid (HPa1.out.mod hm5 (fun h => h.elim HPC.out.2.1 hpp4))
          have HV5 := Lib.hid (hm5.blk HVa.out (fun h => h.elim HPC.out.2.2 hvp))
          have HD5 := Lib.hid hd5
          have HH50 := Lib.hid (HH0.out.app y)
          have HH51 := Lib.hid (HH1.out.other (k' := [97]) (by decide) (dataF F' [97] ++ wrapF y, (dataF F' [97] ++ wrapF y).length))
          have HB5 := Lib.hid (HBa.out.trans (hb5.mono (by omega)))
          have hc5' : ∀ g, g < wo.heap.size → ¬ C' g → ¬ C5 g := fun g hg hn h => by
            rcases hc5 g h with h | h
            · exact hn h
            · omega
          have HS50 := Lib.hid (fun g hg => (⟨hc5' g (hol0 g hg).2 (HS0.out g hg).1, (HS0.out g hg).2⟩ : ¬ C5 g ∧ g ≠ pw ∧ g ≠ p ∧ g ≠ q ∧ g ≠ vb ∧ (Value.slice A1 m1 d1).ownBlock ≠ some g))
          have HS51 := Lib.hid (fun g hg => (⟨hc5' g (hol1 g hg).2 (HS1.out g hg).1, (HS1.out g hg).2⟩ : ¬ C5 g ∧ g ≠ pw ∧ g ≠ p ∧ g ≠ q ∧ g ≠ vb ∧ (Value.slice A0 m0 d0).ownBlock ≠ some g))
          have HPC5 := Lib.hid (show ¬ C5 p ∧ ¬ C5 q ∧ ¬ C5 vb from ⟨hc5' p hpl0 HPC.out.1, hc5' q hpl1 HPC.out.2.1, hc5' vb hvl HPC.out.2.2⟩)
          have hz15 : w1.heap.size ≤ w5.heap.size := by omega
          clear hd5 hc5 hm5 hb5 hc5' hol0 hol1 HOa0 HOa1 HPa0 HPa1 HVa HDa
          have hv0 : w5.cell? ⟨vb, 0, none⟩ = some (.slice A0 m0 d0) := by rw [cell_of_blk HV5.out]; rfl
          have hv1 : w5.cell? ⟨vb, 1, none⟩ = some (.slice A1 m1 d1) := by rw [cell_of_blk HV5.out]; rfl
          have hf0 : w5.frozen? ⟨vb, 0, none⟩ = false := frozen_of_blk HV5.out _
          have hf1 : w5.frozen? ⟨vb, 1, none⟩ = false := frozen_of_blk HV5.out _
          obtain ⟨i1, hj, hy0, hy1, hy2⟩ := info_parts info_sl
          go_wp2_with (at_builtin; (refine wpList_append_any _ rfl (.tmp 76) (.tmp 78) 26 rfl w1.heap.size 22 i1 (.slice none 0 0) 1 24 Tryd.underlying26 hj hy0 hy1 hy2 rfl (by decide) (.slice A0 m0 d0) m0 (L0.map slV) rfl (HO50.out.alloc _) _ (some ⟨w5.heap.size, 0, none⟩) 1 1 [.slice a1 n1 c1] rfl (reads_blk (heap_alloc_new _ _) rfl) (fun u hu => by obtain rfl := List.mem_singleton.1 hu; rfl) (by unfold maxLen; omega) (by omega) (by rw [World.size_alloc]; omega) ?_; intro v8 w8 hown8 hgr8 hor8; obtain ⟨A8, c8, rfl, hc8⟩ := owns_form hown8; have HV8 := Lib.hid (blk_grown ((Below.heap_alloc w5 _ vb (lt_of_heap HV5.out)).trans HV5.out) hgr8 (fun e => (HS50.out vb e).2.2.2.2.1 rfl)); have hf8 : w8.frozen? ⟨vb, 0, none⟩ = false := frozen_of_blk HV8.out _; have hv8 : w8.cell? ⟨vb, 0, none⟩ = some (.slice A0 m0 d0) := cell_of_blk HV8.out _))
          have hba := (Below.refl w5.heap.size w5).alloc (Nat.le_refl _) (.cells #[.slice a1 n1 c1] 22 (0, 0))
          have hza := World.size_alloc w5 (.cells #[.slice a1 n1 c1] 22 (0, 0))
          have hb58 := ((Below.refl w1.heap.size w5).alloc (by omega) (.cells #[.slice a1 n1 c1] 22 (0, 0))).grown hgr8 (by omega) (fun j hj => (HO50.out.lt j hj).1)
          have hd8 := (HD5.out.below hba).grown hgr8 (fun g hg => ⟨(HS50.out g hg).1, (HS50.out g hg).2.1⟩)
          have hp80 := (HP50.out.below hba).grown hgr8 (fun hg => (HS50.out p hg).2.2.1 rfl)
          have hp81 := (HP51.out.below hba).grown hgr8 (fun hg => (HS50.out q hg).2.2.2.1 rfl)
          have hoo : w8.ownsRow w1.heap.size 22 1 (.slice A1 m1 d1) m1 (L1.map slV) := owns_modv (owns_bel HO51.out hba) ((Mod.refl _ _).grown (F := fun b => (Value.slice A0 m0 d0).ownBlock = some b) hgr8 (fun g hg _ => hg)) (fun g hg h => (HS51.out g hg).2.2.2.2.2 h)
          have hlt5 := HD5.out.lt
          have hpl50 := lt_of_heap HP50.out
          have hpl51 := lt_of_heap HP51.out
          have hvl5 := lt_of_heap HV5.out
          have hol5 := HO51.out.lt
          have hs8 : ∀ g, (Value.slice A8 (m0 + 1) c8).ownBlock = some g → ¬ C5 g ∧ g ≠ pw ∧ g ≠ p ∧ g ≠ q ∧ g ≠ vb ∧ (Value.slice A1 m1 d1).ownBlock ≠ some g := fun g hg => by
            rcases hor8 with h | h
            · rw [h] at hg
              exact HS50.out g hg
            · rw [h] at hg
              injection hg with hg
              exact ⟨fun h => by have := hlt5 g (.inl h); omega, fun h => by have := hlt5 pw (.inr rfl); omega, by omega, by omega, by omega, fun h => by have := (hol5 g h).2; omega⟩
          have hm8 : Mod (fun b => b = vb) w8 (w8.setCell ⟨vb, 0, none⟩ (.slice A8 (m0 + 1) c8)) := Mod.setCell (F := fun b => b = vb) (Mod.refl _ w8) (fun _ => rfl) _
          have hbt : bytesOf (L0 ++ [(a1, n1, c1, y)]) = bytesOf L0 ++ [y] := by simp [bytesOf]
          have hv9 : (w8.setCell ⟨vb, 0, none⟩ (.slice A8 (m0 + 1) c8)).heap[vb]? = some (.cells #[.slice A8 (m0 + 1) c8, .slice A1 m1 d1] 50 (0, 0)) := blk_set HV8.out 0 _
          have hlx : (L0 ++ [(a1, n1, c1, y)]).length = m0 + 1 := by rw [List.length_append, ← HM0.out]; rfl
          have hbz : Below w1.heap.size w8 (w8.setCell ⟨vb, 0, none⟩ (.slice A8 (m0 + 1) c8)) := hm8.below (by have := hb58.size; omega) (fun k hk h => by omega)
          refine ⟨⟨k + 1, (L0 ++ [(a1, n1, c1, y)]), L1, A8, c8, A1, d1, C5, u' + 2, _, _, by omega, by go_num, by (try rw [hlx]); rw [← HM1.out]; omega, by omega, Lib.hid (fun x hx => ?_), ?_, ?_, ?_, Lib.hid ((hd8.mod hm8 (fun b hb e => HPC5.out.2.2 (e ▸ hb)) (fun e => hvp e.symm)).more (by omega) (by omega)), ?_, ?_, Lib.hid (hp80.mod hm8 (fun e => hvp1 e.symm)), Lib.hid (hp81.mod hm8 (fun e => hvp2 e.symm)), ?_, ?_, HPC5, Lib.hid (HB5.out.trans ((hb58.trans hbz).mono hz1))⟩, by simp [intOf]; omega⟩
          · rcases hx with h | h
            · rcases List.mem_append.1 h with h | h
              · exact HLQ.out x (.inl h)
              · obtain rfl := List.mem_singleton.1 h
                exact List.mem_of_getElem? HX.out
            · exact HLQ.out x (.inr h)
          · rw [hlx, ← HM1.out]; exact Lib.hid hv9
          · rw [hlx, List.map_append]; exact Lib.hid (owns_modv hown8 hm8 (fun g hg e => (hs8 g hg).2.2.2.2.1 e))
          · rw [← HM1.out]; exact Lib.hid (owns_modv hoo hm8 (fun g hg e => (HS51.out g hg).2.2.2.2.1 e))
          · rw [hbt]; exact HH50
          · exact HH51
          · rw [hlx, ← HM1.out]; exact Lib.hid hs8
          · rw [hlx, ← HM1.out]; exact Lib.hid (fun g hg => ⟨(HS51.out g hg).1, (HS51.out g hg).2.1, (HS51.out g hg).2.2.1, (HS51.out g hg).2.2.2.1, (HS51.out g hg).2.2.2.2.1, fun e => (hs8 g e).2.2.2.2.2 hg⟩)
        · have hbit1 : Go.bits BinOp.and .u16 ((turns : Int) / 2 ^ k) 1 = 1 := by rw [hbit, show turns / 2 ^ k % 2 = 1 by omega]; rfl
          clear hbit hb
          go_wp2_with (fail)
          have hba := (Below.refl wo.heap.size wo).alloc (Nat.le_refl _) (.cells #[.pointer (some ⟨p, 0, none⟩), .pointer (some ⟨q, 0, none⟩)] 46 (0, 0))
          have hpl0 := lt_of_heap HP0.out
          have hpl1 := lt_of_heap HP1.out
          have hol0 := HO0.out.lt
          have hol1 := HO1.out.lt
          have hsa := World.size_alloc wo (.cells #[.pointer (some ⟨p, 0, none⟩), .pointer (some ⟨q, 0, none⟩)] 46 (0, 0))
          have HDa := Lib.hid (HDR.out.below hba)
          have HPa0 := Lib.hid (HP0.out.below hba)
          have HPa1 := Lib.hid (HP1.out.below hba)
          have HVa := Lib.hid ((hba.block _ hvl).trans HVR.out)
          have HOa0 := Lib.hid (owns_bel HO0.out hba)
          have HOa1 := Lib.hid (owns_bel HO1.out hba)
          have HBa := Lib.hid (HBR.out.trans (hba.mono (by omega)))
          clear hba HDR HP0 HP1 HVR HO0 HO1 HBR hv0 hv1 e0
          generalize wo.alloc (.cells #[.pointer (some ⟨p, 0, none⟩), .pointer (some ⟨q, 0, none⟩)] 46 (0, 0)) = wa at *
          refine (logAppend w1.heap.size (2 * k) a pw t' q w.heap.size C' (-1) u' 3000 F' [98] y a1 n1 c1 wa HDa.out HPa1.out HPC.out.2.1 hpp4 (by omega) (by omega) (by decide) (R0.out.below HBa.out) (HBa.out.size) (by omega) (by omega)).mono ?_
          rintro e w5 ⟨rfl, C5, hd5, hc5, hm5, hb5⟩
          have hz5 := hm5.size
          have HO50 := Lib.hid (owns_modv HOa0.out hm5 (fun g hg h => h.elim (HS0.out g hg).1 (HS0.out g hg).2.1))
          have HO51 := Lib.hid (owns_modv HOa1.out hm5 (fun g hg h => h.elim (HS1.out g hg).1 (HS1.out g hg).2.1))
          have HP50 := Lib.hid (HPa0.out.mod hm5 (fun h => h.elim HPC.out.1 hpp))
          have HP51 := Lib.hid (HPa1.out.mod hm5 (fun h => h.elim HPC.out.2.1 hpp4))
          have HV5 := Lib.hid (hm5.blk HVa.out (fun h => h.elim HPC.out.2.2 hvp))
          have HD5 := Lib.hid hd5
          have HH51 := Lib.hid (HH1.out.app y)
          have HH50 := Lib.hid (HH0.out.other (k' := [98]) (by decide) (dataF F' [98] ++ wrapF y, (dataF F' [98] ++ wrapF y).length))
          have HB5 := Lib.hid (HBa.out.trans (hb5.mono (by omega)))
          have hc5' : ∀ g, g < wo.heap.size → ¬ C' g → ¬ C5 g := fun g hg hn h => by
            rcases hc5 g h with h | h
            · exact hn h
            · omega
          have HS50 := Lib.hid (fun g hg => (⟨hc5' g (hol0 g hg).2 (HS0.out g hg).1, (HS0.out g hg).2⟩ : ¬ C5 g ∧ g ≠ pw ∧ g ≠ p ∧ g ≠ q ∧ g ≠ vb ∧ (Value.slice A1 m1 d1).ownBlock ≠ some g))
          have HS51 := Lib.hid (fun g hg => (⟨hc5' g (hol1 g hg).2 (HS1.out g hg).1, (HS1.out g hg).2⟩ : ¬ C5 g ∧ g ≠ pw ∧ g ≠ p ∧ g ≠ q ∧ g ≠ vb ∧ (Value.slice A0 m0 d0).ownBlock ≠ some g))
          have HPC5 := Lib.hid (show ¬ C5 p ∧ ¬ C5 q ∧ ¬ C5 vb from ⟨hc5' p hpl0 HPC.out.1, hc5' q hpl1 HPC.out.2.1, hc5' vb hvl HPC.out.2.2⟩)
          have hz15 : w1.heap.size ≤ w5.heap.size := by omega
          clear hd5 hc5 hm5 hb5 hc5' hol0 hol1 HOa0 HOa1 HPa0 HPa1 HVa HDa
          have hv0 : w5.cell? ⟨vb, 0, none⟩ = some (.slice A0 m0 d0) := by rw [cell_of_blk HV5.out]; rfl
          have hv1 : w5.cell? ⟨vb, 1, none⟩ = some (.slice A1 m1 d1) := by rw [cell_of_blk HV5.out]; rfl
          have hf0 : w5.frozen? ⟨vb, 0, none⟩ = false := frozen_of_blk HV5.out _
          have hf1 : w5.frozen? ⟨vb, 1, none⟩ = false := frozen_of_blk HV5.out _
          obtain ⟨i1, hj, hy0, hy1, hy2⟩ := info_parts info_sl
          go_wp2_with (at_builtin; (refine wpList_append_any _ rfl (.tmp 76) (.tmp 78) 26 rfl w1.heap.size 22 i1 (.slice none 0 0) 1 24 Tryd.underlying26 hj hy0 hy1 hy2 rfl (by decide) (.slice A1 m1 d1) m1 (L1.map slV) rfl (HO51.out.alloc _) _ (some ⟨w5.heap.size, 0, none⟩) 1 1 [.slice a1 n1 c1] rfl (reads_blk (heap_alloc_new _ _) rfl) (fun u hu => by obtain rfl := List.mem_singleton.1 hu; rfl) (by unfold maxLen; omega) (by omega) (by rw [World.size_alloc]; omega) ?_; intro v8 w8 hown8 hgr8 hor8; obtain ⟨A8, c8, rfl, hc8⟩ := owns_form hown8; have HV8 := Lib.hid (blk_grown ((Below.heap_alloc w5 _ vb (lt_of_heap HV5.out)).trans HV5.out) hgr8 (fun e => (HS51.out vb e).2.2.2.2.1 rfl)); have hf8 : w8.frozen? ⟨vb, 1, none⟩ = false := frozen_of_blk HV8.out _; have hv8 : w8.cell? ⟨vb, 1, none⟩ = some (.slice A1 m1 d1) := cell_of_blk HV8.out _))
          have hba := (Below.refl w5.heap.size w5).alloc (Nat.le_refl _) (.cells #[.slice a1 n1 c1] 22 (0, 0))
          have hza := World.size_alloc w5 (.cells #[.slice a1 n1 c1] 22 (0, 0))
          have hb58 := ((Below.refl w1.heap.size w5).alloc (by omega) (.cells #[.slice a1 n1 c1] 22 (0, 0))).grown hgr8 (by omega) (fun j hj => (HO51.out.lt j hj).1)
          have hd8 := (HD5.out.below hba).grown hgr8 (fun g hg => ⟨(HS51.out g hg).1, (HS51.out g hg).2.1⟩)
          have hp80 := (HP50.out.below hba).grown hgr8 (fun hg => (HS51.out p hg).2.2.1 rfl)
          have hp81 := (HP51.out.below hba).grown hgr8 (fun hg => (HS51.out q hg).2.2.2.1 rfl)
          have hoo : w8.ownsRow w1.heap.size 22 1 (.slice A0 m0 d0) m0 (L0.map slV) := owns_modv (owns_bel HO50.out hba) ((Mod.refl _ _).grown (F := fun b => (Value.slice A1 m1 d1).ownBlock = some b) hgr8 (fun g hg _ => hg)) (fun g hg h => (HS50.out g hg).2.2.2.2.2 h)
          have hlt5 := HD5.out.lt
          have hpl50 := lt_of_heap HP50.out
          have hpl51 := lt_of_heap HP51.out
          have hvl5 := lt_of_heap HV5.out
          have hol5 := HO50.out.lt
          have hs8 : ∀ g, (Value.slice A8 (m1 + 1) c8).ownBlock = some g → ¬ C5 g ∧ g ≠ pw ∧ g ≠ p ∧ g ≠ q ∧ g ≠ vb ∧ (Value.slice A0 m0 d0).ownBlock ≠ some g := fun g hg => by
            rcases hor8 with h | h
            · rw [h] at hg
              exact HS51.out g hg
            · rw [h] at hg
              injection hg with hg
              exact ⟨fun h => by have := hlt5 g (.inl h); omega, fun h => by have := hlt5 pw (.inr rfl); omega, by omega, by omega, by omega, fun h => by have := (hol5 g h).2; omega⟩
          have hm8 : Mod (fun b => b = vb) w8 (w8.setCell ⟨vb, 1, none⟩ (.slice A8 (m1 + 1) c8)) := Mod.setCell (F := fun b => b = vb) (Mod.refl _ w8) (fun _ => rfl) _
          have hbt : bytesOf (L1 ++ [(a1, n1, c1, y)]) = bytesOf L1 ++ [y] := by simp [bytesOf]
          have hv9 : (w8.setCell ⟨vb, 1, none⟩ (.slice A8 (m1 + 1) c8)).heap[vb]? = some (.cells #[.slice A0 m0 d0, .slice A8 (m1 + 1) c8] 50 (0, 0)) := blk_set HV8.out 1 _
          have hlx : (L1 ++ [(a1, n1, c1, y)]).length = m1 + 1 := by rw [List.length_append, ← HM1.out]; rfl
          have hbz : Below w1.heap.size w8 (w8.setCell ⟨vb, 1, none⟩ (.slice A8 (m1 + 1) c8)) := hm8.below (by have := hb58.size; omega) (fun k hk h => by omega)
          refine ⟨⟨k + 1, L0, (L1 ++ [(a1, n1, c1, y)]), A0, d0, A8, c8, C5, u' + 2, _, _, by omega, by go_num, by (try rw [hlx]); rw [← HM0.out]; omega, by omega, Lib.hid (fun x hx => ?_), ?_, ?_, ?_, Lib.hid ((hd8.mod hm8 (fun b hb e => HPC5.out.2.2 (e ▸ hb)) (fun e => hvp e.symm)).more (by omega) (by omega)), ?_, ?_, Lib.hid (hp80.mod hm8 (fun e => hvp1 e.symm)), Lib.hid (hp81.mod hm8 (fun e => hvp2 e.symm)), ?_, ?_, HPC5, Lib.hid (HB5.out.trans ((hb58.trans hbz).mono hz1))⟩, by simp [intOf]; omega⟩
          · rcases hx with h | h
            · exact HLQ.out x (.inl h)
            · rcases List.mem_append.1 h with h | h
              · exact HLQ.out x (.inr h)
              · obtain rfl := List.mem_singleton.1 h
                exact List.mem_of_getElem? HX.out
          · rw [hlx, ← HM0.out]; exact Lib.hid hv9
          · rw [← HM0.out]; exact Lib.hid (owns_modv hoo hm8 (fun g hg e => (HS50.out g hg).2.2.2.2.1 e))
          · rw [hlx, List.map_append]; exact Lib.hid (owns_modv hown8 hm8 (fun g hg e => (hs8 g hg).2.2.2.2.1 e))
          · exact HH50
          · rw [hbt]; exact HH51
          · rw [hlx, ← HM0.out]; exact Lib.hid (fun g hg => ⟨(HS50.out g hg).1, (HS50.out g hg).2.1, (HS50.out g hg).2.2.1, (HS50.out g hg).2.2.2.1, (HS50.out g hg).2.2.2.2.1, fun e => (hs8 g e).2.2.2.2.2 hg⟩)
          · rw [hlx, ← HM0.out]; exact Lib.hid hs8
      · obtain rfl : k = n := by omega
        have hq0 : ∀ p ∈ bytesOf L0, p.length ≤ 40 := fun p hp => by
          obtain ⟨x, hx, rfl⟩ := List.mem_map.1 hp
          have h1 := (HR.out.2 x (HLQ.out x (.inl hx))).1
          rw [bv_length] at h1
          have h2 := H40.out x (HLQ.out x (.inl hx))
          omega
        have hq1 : ∀ p ∈ bytesOf L1, p.length ≤ 40 := fun p hp => by
          obtain ⟨x, hx, rfl⟩ := List.mem_map.1 hp
          have h1 := (HR.out.2 x (HLQ.out x (.inr hx))).1
          rw [bv_length] at h1
          have h2 := H40.out x (HLQ.out x (.inr hx))
          omega
        have HQ0 := Lib.hid hq0
        have HQ1 := Lib.hid hq1
        have HB0 := Lib.hid (show (bytesOf L0).length = m0 by rw [HM0.out]; simp [bytesOf])
        have HB1' := Lib.hid (show (bytesOf L1).length = m1 by rw [HM1.out]; simp [bytesOf])
        clear hq0 hq1
        go_wp2_with (fail)
        refine (logOpen_has _ _ a pw t' C' (-1) u' 3000 F' [97] m0 (bytesOf L0) wo HDR.out (by omega) (by omega) (by decide) HH0.out (fun p hp => by have := HQ0.out p hp; omega) HB0.out).mono ?_
        rintro e w5 ⟨p5, A5, c5, L5, C5, u5, rfl, hd5, hc5, hm5, _, _, _, hr5, hL5, hb5, _⟩
        have hz5 := hm5.size
        have hol0 := HO0.out.lt
        have hol1 := HO1.out.lt
        have HO50 := Lib.hid (owns_modv HO0.out hm5 (fun g hg h => h.elim (HS0.out g hg).1 (HS0.out g hg).2.1))
        have HO51 := Lib.hid (owns_modv HO1.out hm5 (fun g hg h => h.elim (HS1.out g hg).1 (HS1.out g hg).2.1))
        have HV5 := Lib.hid (hm5.blk HVR.out (fun h => h.elim HPC.out.2.2 hvp))
        have hc5' : ∀ g, g < wo.heap.size → ¬ C' g → ¬ C5 g := fun g hg hn h => by
          rcases hc5 g h with h | h
          · exact hn h
          · omega
        have HC5 := Lib.hid (show (∀ g, (Value.slice A0 m0 d0).ownBlock = some g → ¬ C5 g) ∧ (∀ g, (Value.slice A1 m1 d1).ownBlock = some g → ¬ C5 g) ∧ ¬ C5 vb from ⟨fun g hg => hc5' g (hol0 g hg).2 (HS0.out g hg).1, fun g hg => hc5' g (hol1 g hg).2 (HS1.out g hg).1, hc5' vb hvl HPC.out.2.2⟩)
        have HB5 := Lib.hid (HBR.out.trans (hb5.mono (by omega)))
        have HD5 := Lib.hid hd5
        have HR5 := Lib.hid hr5
        have HL5 := Lib.hid hL5
        clear hd5 hc5 hm5 hr5 hL5 hb5 hc5' hol0 hol1 HDR HBR HVR HO0 HO1 hv0 hv1
        go_wp2_with (fail)
        refine (logOpen_full' _ _ a pw t' C5 (-1) u5 3000 F' [98] m1 (bytesOf L1) w5 HD5.out (by decide) HH1.out (fun p hp => by have := HQ1.out p hp; omega) HB1'.out).mono ?_
        rintro e w6 ⟨p6, A6, c6, L6, rfl, _, _, hr6, hL6, hb6, _⟩
        have hz6 := hb6.size
        have HO60 := Lib.hid (owns_bel HO50.out hb6)
        have HO61 := Lib.hid (owns_bel HO51.out hb6)
        have HB6 := Lib.hid (HB5.out.trans (hb6.mono (by have := HB5.out.size; omega)))
        have HV6 := Lib.hid ((hb6.block _ (lt_of_heap HV5.out)).trans HV5.out)
        have HR6 := Lib.hid hr6
        have HL6 := Lib.hid hL6
        have HR56 := Lib.hid ((HR5.out.below hb6).more hz6)
        clear hr6 hL6 hb6 HR5
        have hv0 : w6.cell? ⟨vb, 0, none⟩ = some (.slice A0 m0 d0) := by rw [cell_of_blk HV6.out]; rfl
        have hv1 : w6.cell? ⟨vb, 1, none⟩ = some (.slice A1 m1 d1) := by rw [cell_of_blk HV6.out]; rfl
        go_wp2_with (fail)
        have r0 : RowsAt w6 w6.heap.size A0 m0 L0 := ⟨Reads.of_own HO60.out, fun x hx => ((HR.out.2 x (HLQ.out x (.inl hx))).below HB6.out).more HB6.out.size⟩
        refine (eqRows true A5 A0 m0 c5 m0 d0 _ _ L5 L0 w6 HR56.out r0 (rows_le40 HR56.out (by rw [HL5.out]; exact HQ0.out)) (rows_le40 r0 HQ0.out) (decide_eq_true HL5.out) (by omega)).mono ?_
        clear r0
        rintro e w7 ⟨rfl, q7, rfl⟩
        go_wp2_with (fail)
        have r1 : RowsAt (w6.drewN q7) w6.heap.size A1 m1 L1 := ⟨Reads.of_own HO61.out, fun x hx => ((HR.out.2 x (HLQ.out x (.inr hx))).below HB6.out).more HB6.out.size⟩
        refine (eqRows true A6 A1 m1 c6 m1 d1 _ _ L6 L1 (w6.drewN q7) (show RowsAt (w6.drewN q7) _ A6 m1 L6 from HR6.out) r1 (rows_le40 HR6.out (by rw [HL6.out]; exact HQ1.out)) (rows_le40 r1 HQ1.out) (decide_eq_true HL6.out) (by omega)).mono ?_
        clear r1
        rintro e w8 ⟨rfl, q8, rfl⟩
        go_wp2_with (fail)
        go_ret
        exact ⟨rfl, bdrewN HB6.out (q7 + q8)⟩
  · refine (light7 false A n c _ L w1 (HR.out.below HB1.out) hnb (decide_eq_false hlight)).mono ?_
    rintro e w1' ⟨rfl, hw1'⟩
    rw [hw1']
    clear hw1' w1'
    clear hlight
    go_wp2_with (fail)
    go_ret
    exact ⟨rfl, HB1.out⟩
end Go.Proofs.YtocgfcboigiigaaDoor
