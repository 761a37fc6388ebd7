/- selionlaw05.CodeCut answers true, whatever the number, the text, the cut, the bytes. Condition: the package's variable 'none' holds what its text lays. -/
import Derived.Test.YtgonklbjbgekoaaDoorLawReads
import Derived.Test.YtgonklbjbgekoaaDoorMod2
namespace Go.Proofs.YtgonklbjbgekoaaDoor
open Go Go.Proofs Go.RowKit

theorem readNum_text (s : Txt) (r : List UInt8) (h : s.length < 2 ^ 64) : readNum (textB s ++ r) = some (s.length, s ++ r) := by
  unfold textB
  rw [List.append_assoc]
  exact readNum_numB _ _ h
theorem readText_text (s : Txt) (r : List UInt8) (most : Nat) (h : s.length < 2 ^ 64) (hm : s.length ≤ most) : readText (textB s ++ r) most = some (s, r) := by
  unfold readText
  rw [readNum_text s r h]
  simp [hm]
/-- A number and a text, cut short: the one or the other isn't there. -/
theorem cut_none {n k : Nat} {s : Txt} (hn : n < 2 ^ 64) (hs : s.length < 2 ^ 64) (hk : k < (numB n ++ textB s).length) :
    readNum ((numB n ++ textB s).take k) = none ∨ ∃ r, readNum ((numB n ++ textB s).take k) = some (n, r) ∧ readText r 100 = none := by
  obtain ⟨bs, hbs⟩ : ∃ bs, bs = numB n ++ textB s := ⟨_, rfl⟩
  rw [← hbs] at hk ⊢
  cases h : readNum (bs.take k) with
  | none => exact .inl rfl
  | some x =>
    obtain ⟨m, r⟩ := x
    obtain ⟨h1, h2⟩ := readNum_some h
    have h3 : bs = numB m ++ (r ++ bs.drop k) := by rw [← List.append_assoc, ← h1, List.take_append_drop]
    have h4 := readNum_numB m (r ++ bs.drop k) h2
    rw [← h3, hbs, readNum_numB n _ hn] at h4
    simp only [Option.some.injEq, Prod.mk.injEq] at h4
    obtain ⟨rfl, h5⟩ := h4
    refine .inr ⟨r, rfl, ?_⟩
    have hd : 1 ≤ (bs.drop k).length := by rw [List.length_drop]; omega
    rw [← hbs] at h5
    unfold readText
    cases h6 : readNum r with
    | none => rfl
    | some y =>
      obtain ⟨q, r'⟩ := y
      obtain ⟨h7, h8⟩ := readNum_some h6
      have h9 := readNum_numB q (r' ++ bs.drop k) h8
      rw [← List.append_assoc, ← h7, ← h5] at h9
      have h10 := readNum_text s [] hs
      rw [List.append_nil, List.append_nil, h9] at h10
      simp only [Option.some.injEq, Prod.mk.injEq] at h10
      have h11 := congrArg List.length h10.2
      rw [List.length_append] at h11
      simp only
      rw [if_neg]
      omega
theorem numR_any {w w' : World} {p : Nat} {bs : List UInt8} {bad : Bool} {e : Ending} (h : RetNumR w p bs bad e w') :
    ∃ (x : Nat) (r : List UInt8) (b : Bool), e = .returned (.int .u64 x) ∧ RdAt w' p r b ∧ Mod (· = p) w w' ∧ r.length ≤ bs.length ∧ (b = true → bad = true ∨ readNum bs = none) ∧ (b = false → bad = false ∧ ∃ m, readNum bs = some (m, r)) := by
  unfold RetNumR at h
  cases bad with
  | true => exact ⟨0, bs, true, h.1, h.2.1, h.2.2, Nat.le_refl _, fun _ => .inl rfl, fun h => by cases h⟩
  | false =>
    cases hr : readNum bs with
    | none => rw [hr] at h; exact ⟨0, bs, true, h.1, h.2.1, h.2.2, Nat.le_refl _, fun _ => .inr rfl, fun h => by cases h⟩
    | some x =>
      obtain ⟨m, r⟩ := x
      rw [hr] at h
      exact ⟨m, r, false, h.1, h.2.1, h.2.2, by rw [(readNum_len hr).2.2]; omega, (fun h => by cases h), fun _ => ⟨rfl, m, rfl⟩⟩
theorem textR_any {w w' : World} {p most : Nat} {bs : List UInt8} {bad : Bool} {e : Ending} (h : RetTextR w p bs bad most e w') :
    ∃ (x : Value) (r : List UInt8) (b : Bool), e = .returned x ∧ RdAt w' p r b ∧ Mod (· = p) w w' ∧ (b = true → bad = true ∨ readText bs most = none) ∧ (b = false → bad = false ∧ ∃ s, readText bs most = some (s, r)) := by
  unfold RetTextR at h
  cases bad with
  | true =>
    obtain ⟨h1, ⟨b', _, h2⟩, h3⟩ := h
    exact ⟨_, b', true, h1, h2, h3, fun _ => .inl rfl, fun h => by cases h⟩
  | false =>
    cases hr : readText bs most with
    | none =>
      rw [hr] at h
      obtain ⟨h1, ⟨b', _, h2⟩, h3⟩ := h
      exact ⟨_, b', true, h1, h2, h3, fun _ => .inr rfl, fun h => by cases h⟩
    | some x =>
      obtain ⟨m, r⟩ := x
      rw [hr] at h
      exact ⟨_, r, false, h.1, h.2.1, h.2.2, (fun h => by cases h), fun _ => ⟨rfl, m, rfl⟩⟩
theorem numR_some {w w' : World} {p m : Nat} {bs r : List UInt8} {e : Ending} (hr : readNum bs = some (m, r)) (h : RetNumR w p bs false e w') : e = .returned (.int .u64 m) ∧ RdAt w' p r false ∧ Mod (· = p) w w' := by
  unfold RetNumR at h
  rw [hr] at h
  exact h
theorem textR_some {w w' : World} {p most : Nat} {bs r : List UInt8} {s : Txt} {e : Ending} (hr : readText bs most = some (s, r)) (h : RetTextR w p bs false most e w') : e = .returned (.string ⟨s.toArray⟩) ∧ RdAt w' p r false ∧ Mod (· = p) w w' := by
  unfold RetTextR at h
  rw [hr] at h
  exact h
/-- Two slices, one behind the other, are joined. -/
theorem concat2o {w : World} {g c B n0 n1 c0 c1 : Nat} {A0 A1 : Option Addr} {b0 b1 : List UInt8} (hg : w.heap[g]? = some (.cells #[.slice A0 n0 c0, .slice A1 n1 c1] 22 (0, 0))) (hB : B ≤ w.heap.size) (h0 : Reads w B 1 A0 n0 (bv b0)) (h1 : Reads w B 1 A1 n1 (bv b1)) (hn : n0 + n1 ≤ 1000000000) :
    Calls Tryd.prog 43 #[.slice (some ⟨g, 0, none⟩) 2 c] w (RetBytes w (b0 ++ b1)) := by
  have h := concatB g c 2 B [(A0, n0, c0, b0), (A1, n1, c1, b1)] w rfl (by omega) (lt_of_heap hg) hB (fun j x hx => by
    rw [cell_of_blk hg]
    match j, hx with
    | 0, hx => obtain rfl := Option.some.inj hx; rfl
    | 1, hx => obtain rfl := Option.some.inj hx; rfl) (fun x hx => by
    simp only [List.mem_cons, List.not_mem_nil, or_false] at hx
    rcases hx with rfl | rfl
    · exact h0
    · exact h1) (by simp [totB]; omega)
  simpa [flatB] using h
set_option maxHeartbeats 8000000 in
set_option maxRecDepth 100000 in
theorem cut5 (n cut : Nat) (s : Txt) (A : Option Addr) (nm cm : Nat) (more : List UInt8) (w : World) (hn : NoneLaid w) (hnn : n < 2 ^ 64) (hc : cut < 256) (hs : s.length ≤ 140737488355328) (hr : Reads w w.heap.size 1 A nm (bv more)) (hm : nm ≤ 140737488355328) :
    Calls Tryd.prog 13 #[.int .u64 n, txt s, .int .u8 cut, .slice A nm cm] w fun e w' => e = .returned (.bool true) ∧ Below w.heap.size w w' := by
  show Calls Tryd.prog 13 #[.int .u64 n, .string ⟨s.toArray⟩, .int .u8 cut, .slice A nm cm] w _
  have hsz : (⟨s.toArray⟩ : ByteArray).size = s.length := by simp [ByteArray.size]
  obtain ⟨i0, hi, hz0, hz1, hz2⟩ := info_parts info_u8
  have hnm : more.length = nm := by have := hr.1; rw [bv_length] at this; omega
  have HR := Lib.hid hr
  have HNM := Lib.hid hnm
  clear hr hnm
  by_cases hbig : s.length ≤ 100 ∧ nm ≤ 100
  · obtain ⟨hs1, hs2⟩ := hbig
    have g1 : decide ((100 : Int) < (s.length : Int)) = false := decide_eq_false (by omega)
    have g2 : decide ((100 : Int) < (nm : Int)) = false := decide_eq_false (by omega)
    obtain ⟨bs, hbs⟩ : ∃ bs, bs = numB n ++ textB s := ⟨_, rfl⟩
    have hl10 := numB_len10 hnn
    have hlt : (textB s).length ≤ 110 := by unfold textB; rw [List.length_append]; have := numB_len10 (n := s.length) (by omega); omega
    have hLB : bs.length ≤ 120 := by rw [hbs, List.length_append]; omega
    have HBS := Lib.hid hbs
    have HCN := Lib.hid (fun k hk => cut_none (k := k) hnn (show s.length < 2 ^ 64 by omega) hk)
    clear hbs hl10 hlt
    obtain ⟨LB, hL⟩ : ∃ LB, LB = bs.length := ⟨_, rfl⟩
    rw [← hL] at hLB
    obtain ⟨k, hk⟩ : ∃ k : Nat, k = cut % (LB + 1) := ⟨_, rfl⟩
    have hk1 : (cut : Int) % ((LB : Int) + 1) = (k : Int) := by rw [hk]; push_cast; rfl
    have hminf : k ≤ LB → min (k : Int) (LB : Int) = (k : Int) := fun h => by omega
    have hk2 : k ≤ LB := by rw [hk]; have := Nat.mod_lt cut (show 0 < LB + 1 by omega); omega
    have HL := Lib.hid hL
    have hmin := hminf hk2
    clear hL hk hminf
    go_enter Tryd.func13, Tryd.ntmps13
    go_wp2_with (fail)
    refine (awake5_any w hn).mono ?_
    rintro e w1 ⟨rfl, hb1⟩
    clear hn
    have hz1' := hb1.size
    go_wp2_with (fail)
    refine (numW _ w1.heap.size n [] _ (wrNew w1) hnn (by simp)).mono ?_
    rintro e w2 ⟨rfl, C2, hW2, hC2, hM2⟩
    rw [List.nil_append] at hW2
    have hb2 : Below w1.heap.size w1 w2 := ((Below.refl _ _).alloc (Nat.le_refl _) _).trans (hM2.below (by simp) (fun k hk h => by omega))
    have HB2 := Lib.hid (hb1.trans (hb2.mono hz1'))
    have HW2 := Lib.hid hW2
    have HC2 := Lib.hid hC2
    have hz2' := hM2.size
    rw [World.size_alloc] at hz2'
    clear hW2 hC2 hM2 hb2 hb1
    go_wp2_with (fail)
    refine (textW C2 w1.heap.size s (numB n) w2 HW2.out (by omega) (by have := numB_len10 hnn; omega)).mono ?_
    rintro e w3 ⟨rfl, C3, hW3, hC3, hM3⟩
    have hC2w : ∀ b, b < w.heap.size → ¬ C2 b := fun b hb h => by
      rcases HC2.out b h with h' | h'
      · omega
      · rw [World.size_alloc] at h'; omega
    have HB3 := Lib.hid (HB2.out.trans (hM3.below HB2.out.size hC2w))
    rw [← HBS.out] at hW3
    obtain ⟨A1, c1, h1, h2, h3, h4⟩ := hW3
    rw [← HL.out] at h1 h2 h4
    have hlc : LB ≤ c1 := by
      obtain ⟨_, _, e5, h5⟩ := h2.form
      injection e5 with _ _ e5
      omega
    have d0 : w3.cell? ⟨w1.heap.size, 0, none⟩ = some (.slice A1 LB c1) := by rw [cell_of_blk h1]; rfl
    have hbl : w1.heap.size < w3.heap.size := World.block_lt_of_cell? _ _ d0
    have H1 := Lib.hid h1
    have H2 := Lib.hid h2
    have H4 := Lib.hid h4
    have put : Hid (Reads (w3.alloc (.cells #[.int .u8 0] 5 (0, 0))) (w3.alloc (.cells #[.int .u8 0] 5 (0, 0))).heap.size 1 (some ⟨w3.heap.size, 0, none⟩) 1 [.int .u8 0]) := Lib.hid ⟨rfl, fun _ => ⟨_, rfl, by simp, fun j u hj => by
      match j, hj with
      | 0, hj =>
        obtain rfl := Option.some.inj hj
        rw [show (⟨w3.heap.size, 0, none⟩ : Addr).add 0 = ⟨w3.heap.size, 0, none⟩ from rfl, cell_of_row _ _ _ _ _ _ (heap_alloc_new w3 _)]
        rfl⟩⟩
    have hC3w : ∀ b, C3 b → w.heap.size ≤ b := fun b h => by
      rcases hC3 b h with h' | h'
      · rcases HC2.out b h' with h2 | h2
        · omega
        · rw [World.size_alloc] at h2; omega
      · have := HB2.out.size; omega
    have HC3 := Lib.hid hC3w
    clear h1 h2 h3 h4 hC2w hC3 hM3 hC3w
    go_wp2_with (at_builtin; (refine wpList_append_rowW2 _ rfl (.tmp 30) (.tmp 31) 22 rfl 5 i0 (.int .u8 0) 1 Tryd.underlying22 hi hz0 hz1 hz2 rfl (.slice A1 LB c1) LB (bv bs) rfl (H2.out.alloc _) _ (some ⟨w3.heap.size, 0, none⟩) 1 1 [.int .u8 0] rfl put.out (fun u hu => by obtain rfl := List.mem_singleton.1 hu; rfl) (by unfold maxLen; omega) (by omega) ?_; intro v5 w5 hrow5 hgr5 hat5 hold5; obtain ⟨A5, c5, rfl, hc5⟩ := hrow5.form; have hp5 := (hgr5.block w1.heap.size (by rw [World.size_alloc]; omega) (fun e => (H4.out w1.heap.size e.symm).2 rfl)).trans (heap_alloc_keep H1.out _); have d5 : w5.cell? ⟨w1.heap.size, 0, none⟩ = some (.slice A1 LB c1) := cell_of_blk hp5 0; have HG5 := Lib.hid hgr5; have HO5 := Lib.hid hold5; clear hrow5 hgr5 hat5 hold5 hp5))
    have hb5 : Below w.heap.size w w5 := ((HB3.out.alloc HB3.out.size _).trans (by
      refine ⟨HG5.out.os, HG5.out.tape, HG5.out.output, HG5.out.size, fun j hj => HG5.out.block j (by rw [World.size_alloc]; have := HB3.out.size; omega) (fun e => ?_)⟩
      have h1 := HC3.out j (H4.out j e.symm).1
      omega))
    have HB5 := Lib.hid hb5
    have hlk : (bs.take k).length = k := by rw [List.length_take, ← HL.out]; omega
    have HLK := Lib.hid hlk
    clear hb5 hlk
    refine (cloneB A1 k c1 _ (bv (bs.take k)) w5 (HO5.out.reads.pre hk2) (Nat.le_refl _) (bv_one _) (by omega)).mono ?_
    rintro e w6 ⟨v6, rfl, hown6, hb6⟩
    obtain ⟨A6, c6, rfl, hc6⟩ := owns_form hown6
    have hrd := rdNew (bs := bs.take k) (by rw [HLK.out]; exact hown6)
    rw [HLK.out] at hrd
    have HRD6 := Lib.hid hrd
    have HB6 := Lib.hid (HB5.out.trans (hb6.mono HB5.out.size))
    have HK6 := Lib.hid hb6
    have hz6 := hb6.size
    clear hrd hown6 hb6
    go_wp2_with (fail)
    refine (numR w6.heap.size (bs.take k) false _ HRD6.out (by rw [HLK.out]; omega)).mono ?_
    intro e w7 h7
    obtain ⟨x7, r7, b7, rfl, hr7, hm7, hl7, ht7, hf7⟩ := numR_any h7
    have hb7 : Below w5.heap.size w5 w7 := (HK6.out.alloc HK6.out.size _).trans (hm7.below (by rw [World.size_alloc]; omega) (fun k hk h => by omega))
    have HR7 := Lib.hid hr7
    have HB7 := Lib.hid hb7
    have HF7 := Lib.hid hf7
    have HT7 := Lib.hid ht7
    have HL7 := Lib.hid hl7
    clear h7 hr7 hm7 hb7 hf7 ht7 hl7
    go_wp2_with (fail)
    refine (textR w6.heap.size 100 r7 b7 w7 HR7.out (by have := HL7.out; rw [HLK.out] at this; omega) (by omega)).mono ?_
    intro e w8 h8
    obtain ⟨x8, r8, b8, rfl, hr8, hm8, ht8, hf8⟩ := textR_any h8
    have hb8e : b8 = decide (k < LB) := by
      by_cases hkl : k < LB
      · rw [decide_eq_true hkl]
        cases hb8 : b8 with
        | true => rfl
        | false =>
          exfalso
          obtain ⟨h1, s', h2⟩ := hf8 hb8
          obtain ⟨_, m, h3⟩ := HF7.out h1
          have h4 := HCN.out k (by rw [← HBS.out, ← HL.out]; exact hkl)
          rw [← HBS.out, h3] at h4
          rcases h4 with h4 | ⟨r', h4, h5⟩
          · cases h4
          · simp only [Option.some.injEq, Prod.mk.injEq] at h4
            rw [h4.2, h5] at h2
            cases h2
      · rw [decide_eq_false hkl]
        cases hb8 : b8 with
        | false => rfl
        | true =>
          exfalso
          have hk : k = LB := by omega
          have h0 : bs.take k = numB n ++ textB s := by rw [hk, HL.out, List.take_length]; exact HBS.out
          have h1 := readNum_numB n (textB s) hnn
          have h2 := readText_text s [] 100 (by omega) hs1
          rw [List.append_nil] at h2
          rcases ht8 hb8 with h | h
          · rcases HT7.out h with h | h
            · cases h
            · rw [h0, h1] at h; cases h
          · cases hb7 : b7 with
            | true =>
              rcases HT7.out hb7 with h | h
              · cases h
              · rw [h0, h1] at h; cases h
            | false =>
              obtain ⟨_, m, h3⟩ := HF7.out hb7
              rw [h0, h1] at h3
              simp only [Option.some.injEq, Prod.mk.injEq] at h3
              rw [← h3.2, h2] at h
              cases h
    have hb8 : Below w5.heap.size w5 w8 := HB7.out.trans (hm8.below HB7.out.size (fun k hk h => by omega))
    rw [hb8e] at hr8
    have d8 := cellk hb8 (p := ⟨w1.heap.size, 0, none⟩) (World.block_lt_of_cell? _ _ d5) d5
    have HR8 := Lib.hid hr8
    have HB8 := Lib.hid hb8
    clear h8 hr8 hm8 hb8 ht8 hf8 hb8e
    go_wp2_with (fail)
    have hz8 := HB8.out.size
    have hmr : Reads w8 w.heap.size 1 A nm (bv more) := HR.out.below (HB5.out.trans (HB8.out.mono HB5.out.size))
    have hrb : Reads w8 w8.heap.size 1 A1 LB (bv bs) := (HO5.out.reads.below HB8.out).more hz8
    refine (concat2o (g := w8.heap.size) (heap_alloc_new _ _) (Nat.le_refl _) ((hrb.alloc (Nat.le_refl _) _).more (by simp)) ((hmr.alloc (by have := HB5.out.size; omega) _).more (by rw [World.size_alloc]; have := HB5.out.size; omega)) (by omega)).mono ?_
    rintro e w9 ⟨A9, c9, rfl, hown9, hb9⟩
    have hl9 : (bs ++ more).length = LB + nm := by rw [List.length_append, ← HL.out, HNM.out]
    have hrd := rdNew hown9
    rw [hl9] at hrd ⊢
    have HRD9 := Lib.hid hrd
    have HB9 := Lib.hid (HB8.out.trans (((Below.refl _ _).alloc (Nat.le_refl _) _).trans (hb9.mono (by simp)) |>.mono hz8))
    have HK9 := Lib.hid hb9
    have hz9 := hb9.size
    rw [World.size_alloc] at hz9
    have HL9 := Lib.hid hl9
    clear hmr hrb hown9 hb9 hrd hl9
    go_wp2_with (fail)
    obtain ⟨W, hW⟩ : ∃ W, W = w9.alloc (.cells #[.slice A9 (LB + nm) c9, .bool false] 68 (0, 0)) := ⟨_, rfl⟩
    obtain ⟨Q1, hQ1⟩ : ∃ Q1, Q1 = w6.heap.size := ⟨_, rfl⟩
    obtain ⟨Q2, hQ2⟩ : ∃ Q2, Q2 = w9.heap.size := ⟨_, rfl⟩
    obtain ⟨v, hv⟩ : ∃ v, v = decide (k < LB) := ⟨_, rfl⟩
    have hkv : decide (k < LB) = v := hv.symm
    have hR8 := HR8.out
    have hbW : Below w8.heap.size w8 W := by
      rw [hW]
      refine Below.alloc ?_ (by omega) _
      exact ((Below.refl _ _).alloc (Nat.le_refl _) (.cells #[.slice A1 LB c1, .slice A nm cm] 22 (0, 0))).trans (HK9.out.mono (by simp))
    have hRS := hR8.below hbW
    rw [← hv, ← hQ1] at hRS
    obtain ⟨A10, c10, k1, k2, k3, k4⟩ := hRS
    have dS : W.cell? ⟨Q1, 1, none⟩ = some (.bool v) := by rw [cell_of_blk k1]; rfl
    have dW : W.cell? ⟨w1.heap.size, 0, none⟩ = some (.slice A1 LB c1) := cellk hbW (World.block_lt_of_cell? _ _ d8) d8
    have hRD := HRD9.out
    rw [← hW, ← hQ2] at hRD
    have hBW : Below w.heap.size w W := HB5.out.trans ((HB8.out.trans (hbW.mono hz8)).mono HB5.out.size)
    have hQw : w.heap.size ≤ Q2 := by have := HB5.out.size; omega
    have HRD := Lib.hid hRD
    have HBW := Lib.hid hBW
    have HN1 := Lib.hid (show readNum (bs ++ more) = some (n, textB s ++ more) by rw [HBS.out, List.append_assoc]; exact readNum_numB _ _ hnn)
    have HN2 := Lib.hid (readText_text s more 100 (by omega) hs1)
    have hlt : (textB s ++ more).length ≤ 1000 := by
      have h1 := congrArg List.length HBS.out
      have h2 := HNM.out
      rw [List.length_append, ← HL.out] at h1
      rw [List.length_append]
      omega
    rw [← hW, ← hQ1, ← hQ2]
    clear HF7 HT7 HL7 HR7 HB7 HK6 HB6 HLK HO5 HG5 H1 H2 H4 put HC3 HB3 HC2 HW2 HB2 d0 d5 hz8 hz9 hz6 hlc hbl hc5 hc6 hz2' hz1' HB8 HB9 HK9 HB5 HCN hk2 hmin g1 g2 hi hz0 hz1 hz2 hW hQ1 hQ2 hv hR8 hbW k1 k2 k3 k4 hRD hBW d8 HRD9 HR8 HRD6
    go_region_with (first
      | (go_at_call 36; refine (numR Q2 (bs ++ more) false _ (by exact HRD.out) (by rw [HL9.out]; omega)).mono ?_; intro e w10 h10; obtain ⟨rfl, hR10, hm10⟩ := numR_some HN1.out h10; have HR10 := Lib.hid hR10; have HB10 := Lib.hid (show Below w.heap.size w w10 from (by first | exact below_modP HBW.out.drew hm10 hQw | exact below_modP HBW.out hm10 hQw)); clear h10 hR10 hm10)
      | (go_at_call 37; refine (textR Q2 100 (textB s ++ more) false _ (by exact HR10.out) (by omega) (by omega)).mono ?_; intro e w11 h11; obtain ⟨rfl, hR11, hm11⟩ := textR_some HN2.out h11; obtain ⟨A11, c11, k1, k2, k3, k4⟩ := hR11; rw [HNM.out] at k1 k2; have d11 : w11.cell? ⟨Q2, 1, none⟩ = some (.bool false) := (by rw [cell_of_blk k1]; rfl); have d12 : w11.cell? ⟨Q2, 0, none⟩ = some (.slice A11 nm c11) := (by rw [cell_of_blk k1]; rfl); have HK2 := Lib.hid k2; have HB11 := Lib.hid (below_modP HB10.out hm11 hQw); clear h11 k1 k2 k3 k4 hm11)
      | (go_at_call 19; refine (equalB true A11 A nm c11 nm cm _ w.heap.size more more _ HK2.out (HR.out.below HB11.out) (by omega) (by omega) (decide_eq_true rfl)).mono ?_; rintro e w12 ⟨rfl, hb12⟩))
    all_goals
      go_wp2_with (fail)
      go_ret
      exact ⟨rfl, HB11.out.trans (hb12.mono HB11.out.size)⟩
  · go_enter Tryd.func13, Tryd.ntmps13
    go_wp2_with (fail)
    refine (awake5_any w hn).mono ?_
    rintro e w1 ⟨rfl, hb1⟩
    clear hn
    by_cases h1 : s.length ≤ 100
    · have g1 : decide ((100 : Int) < (s.length : Int)) = false := decide_eq_false (by omega)
      have g2 : decide ((100 : Int) < (nm : Int)) = true := decide_eq_true (by omega)
      clear hbig
      go_wp2_with (fail)
      go_ret
      exact ⟨rfl, hb1⟩
    · have g1 : decide ((100 : Int) < (s.length : Int)) = true := decide_eq_true (by omega)
      clear hbig
      go_wp2_with (fail)
      go_ret
      exact ⟨rfl, hb1⟩
end Go.Proofs.YtgonklbjbgekoaaDoor
