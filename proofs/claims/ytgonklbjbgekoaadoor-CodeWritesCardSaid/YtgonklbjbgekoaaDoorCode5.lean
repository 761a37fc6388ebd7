/- selionlaw05.Num and Take: a number's bytes by definition, and which number bytes begin with. Condition: not too many bytes. -/
import Derived.Test.YtgonklbjbgekoaaDoorCode4
import Derived.Test.YtgonklbjbgekoaaDoorCode2
import Derived.Test.YtgonklbjbgekoaaDoorEqualQ
namespace Go.Proofs.YtgonklbjbgekoaaDoor
open Go Go.Proofs Go.RowKit

theorem bv_cons (c : UInt8) (r : List UInt8) : bv (c :: r) = [byteV c] ++ bv r := rfl
set_option maxHeartbeats 2000000 in
set_option maxRecDepth 100000 in
theorem num5 : ∀ (n : Nat) (w : World), n < 2 ^ 64 → Calls Tryd.prog 39 #[.int .u64 n] w (RetBytes w (numB n)) := by
  intro n
  induction n using Nat.strongRecOn with
  | ind n ih =>
    intro w hn
    obtain ⟨i0, hi, hz0, hz1, hz2⟩ := info_parts info_u8
    by_cases h : n < 128
    · have g : decide ((n : Int) < 128) = true := decide_eq_true (by omega)
      have hB : bv (numB n) = [.int .u8 n] := by rw [numB_small h]; simp [bv, byteV, ofNat_toNat (show n < 256 by omega)]
      have hL : (numB n).length = 1 := by rw [numB_small h]; rfl
      have HB := Lib.hid hB
      have HL := Lib.hid hL
      clear ih hB hL
      go_enter Tryd.func39, Tryd.ntmps39
      go_wp2_with (fail)
      go_ret
      unfold RetBytes
      rw [HL.out, HB.out]
      exact ⟨_, _, rfl, owns_new (o := #[.int .u8 n]) (n := 1) (heap_alloc_new _ _) (by unfold maxLen; omega) rfl (Nat.le_refl _), (Below.refl _ _).alloc (Nat.le_refl _) _⟩
    · have g : decide ((n : Int) < 128) = false := decide_eq_false (by omega)
      have hB : bv (numB n) = [.int .u8 ((n : Int) % 128 + 128)] ++ bv (numB (n / 128)) := by
        rw [numB_big h, bv_cons]
        simp only [byteV, ofNat_toNat (show n % 128 + 128 < 256 by omega)]
        congr 3
      have hL : (numB n).length = 1 + (numB (n / 128)).length := by rw [numB_big h, List.length_cons]; omega
      have h10 := numB_len10 (n := n / 128) (by omega)
      have HB := Lib.hid hB
      have HL := Lib.hid hL
      have hc : ∀ w, Calls Tryd.prog 39 #[.int .u64 ((n : Int) / 128)] w (RetBytes w (numB (n / 128))) := fun w => by
        rw [show (n : Int) / 128 = ((n / 128 : Nat) : Int) by omega]
        exact ih (n / 128) (by omega) w (by omega)
      have HC := Lib.hid hc
      clear ih hB hL hc
      go_enter Tryd.func39, Tryd.ntmps39
      go_wp2_with (fail)
      refine (HC.out _).mono ?_
      rintro e w1 ⟨A1, c1, rfl, hown1, hb1⟩
      generalize hm : (numB (n / 128)).length = m at *
      have hz1' := hb1.size
      rw [World.size_alloc] at hz1'
      have HO := Lib.hid hown1
      have hblk : w1.heap[w.heap.size]? = some (.cells #[.int .u8 ((n : Int) % 128 + 128)] 5 (0, 0)) := (hb1.block _ (by simp)).trans (heap_alloc_new _ _)
      have HK := Lib.hid (owns_new (base := w.heap.size) (n := 1) hblk (by unfold maxLen; omega) rfl (Nat.le_refl _))
      have HM := Lib.hid hm
      clear hown1 hblk hm HC
      go_wp2_with (at_builtin; (refine wpList_append_any _ rfl (.tmp 12) (.tmp 15) 22 rfl w.heap.size 5 i0 (.int .u8 0) 1 1 Tryd.underlying22 hi hz0 hz1 hz2 rfl (by decide) (.slice (some ⟨w.heap.size, 0, none⟩) 1 1) 1 [.int .u8 ((n : Int) % 128 + 128)] rfl HK.out w1.heap.size A1 m c1 (bv (numB (n / 128))) rfl (Reads.of_own HO.out) (bv_one _) (by unfold maxLen; omega) (by omega) (by omega) ?_; intro v5 w5 hown5 hgr5 _; obtain ⟨A5, c5, rfl, hc5⟩ := owns_form hown5))
      go_ret
      unfold RetBytes
      rw [HL.out, HB.out]
      have hb : Below w.heap.size w w1 := ((Below.refl _ _).alloc (Nat.le_refl _) _).trans (hb1.mono (by simp))
      exact ⟨_, _, rfl, hown5, hb.grown hgr5 (by omega) (fun j hj => (HK.out.lt j hj).1)⟩
theorem u64_step (v c : Nat) : IntKind.u64.wrap (IntKind.u64.wrap ((v : Int) * 128) + ((c % 128 : Nat) : Int)) = (((v * 128 + c % 128) % 2 ^ 64 : Nat) : Int) := by
  simp only [IntKind.wrap, IntKind.bits, IntKind.signed]
  simp
theorem Reads.pre {w : World} {B n k : Nat} {A : Option Addr} {bs : List UInt8} (h : Reads w B 1 A n (bv bs)) (hk : k ≤ n) : Reads w B 1 A k (bv (bs.take k)) := by
  have hl : bs.length = n := by have := h.1; rw [bv_length] at this; omega
  refine ⟨by rw [bv_length, List.length_take]; omega, fun hp => ?_⟩
  obtain ⟨ad, rfl, hbl, hc⟩ := h.2 (by omega)
  refine ⟨ad, rfl, hbl, fun j u hu => hc j u ?_⟩
  rw [bv_take, List.getElem?_take] at hu
  split at hu
  · exact hu
  · cases hu
theorem val_step {bs : List UInt8} {k m : Nat} {b : UInt8} (hm : m < k) (hb : bs[m]? = some b) : val ((bs.take k).drop m) = (val ((bs.take k).drop (m + 1)) * 128 + b.toNat % 128) % 2 ^ 64 := by
  have h : (bs.take k)[m]? = some b := by rw [List.getElem?_take, if_pos hm, hb]
  rw [drop_at h, val_cons]
set_option maxHeartbeats 4000000 in
set_option maxRecDepth 100000 in
/-- The law's own 'Take'. -/
theorem take5 (A : Option Addr) (n c B : Nat) (bs : List UInt8) (w : World) (hr : Reads w B 1 A n (bv bs)) (hB : B ≤ w.heap.size) (hn : n ≤ 1000000) (hc : n ≤ c) :
    Calls Tryd.prog 35 #[.slice A n c] w fun e w' => e = .returned (.tuple #[.int .u64 (takeN bs).1, .int .i64 (takeN bs).2]) ∧ Below w.heap.size w w' := by
  have hl : bs.length = n := by have := hr.1; rw [bv_length] at this; omega
  have HR := Lib.hid hr
  have HL := Lib.hid hl
  clear hr hl
  go_enter Tryd.func35, Tryd.ntmps35
  go_wp2_with (fail)
  go_loopw [4] (fun k wr => ∃ i : Nat, i ≤ 10 ∧ i ≤ n ∧ k = .int .i64 ((i : Int) + 1) ∧ Hid (∀ j b, j < i → bs[j]? = some b → 128 ≤ b.toNat) ∧ wr = w) (fun k _ => 20 - (intOf k).toNat)
  case atStart => exact ⟨0, by omega, by omega, rfl, Lib.hid (fun j b h => by omega), rfl⟩
  case round =>
    obtain ⟨i, hi10, hin, rfl, HM, rfl⟩ := hrel
    by_cases h1 : i < n
    · have g1 : decide (i + 1 ≤ n) = true := decide_eq_true (by omega)
      have g1' : decide ((i : Int) + 1 ≤ (n : Int)) = true := decide_eq_true (by omega)
      by_cases h2 : i ≤ 9
      · have g2 : decide ((i : Int) + 1 ≤ 10) = true := decide_eq_true (by omega)
        obtain ⟨b, hbk⟩ : ∃ b, bs[i]? = some b := ⟨bs[i]'(by rw [HL.out]; exact h1), List.getElem?_eq_getElem _⟩
        obtain ⟨ad, rfl, hbl, hcl⟩ := HR.out.2 (by omega)
        have f0 : wr.cell? (ad.add i) = some (.int .u8 b.toNat) := hcl i _ (bv_get hbk)
        have hbl2 := b.toNat_lt
        have HBK := Lib.hid hbk
        have hin0 : (0 : Int) ≤ (i : Int) := by omega
        have hin1 : (i : Int) < (n : Int) := by omega
        clear hbk hcl
        by_cases hb7 : 128 ≤ b.toNat
        · have g3 : decide ((128 : Int) ≤ (b.toNat : Int)) = true := decide_eq_true (by omega)
          go_wp2_with (fail)
          refine ⟨⟨i + 1, by omega, by omega, by go_num, Lib.hid (fun j b' hj hb' => ?_), trivial⟩, by simp [intOf]; omega⟩
          rcases Nat.lt_or_ge j i with h | h
          · exact HM.out j b' h hb'
          · obtain rfl : j = i := by omega
            rw [HBK.out] at hb'
            obtain rfl := Option.some.inj hb'
            exact hb7
        · have g3 : decide ((128 : Int) ≤ (b.toNat : Int)) = false := decide_eq_false (by omega)
          have hba := HM
          clear HM
          have hic : i + 1 ≤ c := by omega
          go_wp2_with (fail)
          go_loopw [5, 6] (fun v k wq => ∃ m : Nat, m ≤ i + 1 ∧ k = .int .i64 ((m : Int) - 1) ∧ v = .int .u64 (val ((bs.take (i + 1)).drop m)) ∧ wq = wr) (fun _ k _ => (intOf k + 1).toNat)
          case atStart => exact ⟨i + 1, Nat.le_refl _, by go_num, by rw [List.drop_eq_nil_of_le (by rw [List.length_take]; omega)]; rfl, rfl⟩
          case round =>
            obtain ⟨m, hm, rfl, rfl, rfl⟩ := hrel
            by_cases hm0 : 0 < m
            · obtain ⟨m, rfl⟩ : ∃ m', m = m' + 1 := ⟨m - 1, by omega⟩
              obtain ⟨d, hd⟩ : ∃ d, bs[m]? = some d := ⟨bs[m]'(by rw [HL.out]; omega), List.getElem?_eq_getElem _⟩
              obtain ⟨ad', had, _, hcl⟩ := HR.out.2 (by omega)
              obtain rfl := Option.some.inj had
              have f1 : wr.cell? (ad.add m) = some (.int .u8 d.toNat) := hcl m _ (bv_get hd)
              have hv := val_step (k := i + 1) (by omega) hd
              have hv64 := val_lt ((bs.take (i + 1)).drop (m + 1))
              have HV := Lib.hid hv
              have hm1 : (0 : Int) ≤ (m : Int) := by omega
              have hm2 : (m : Int) < (n : Int) := by omega
              have hd8 := d.toNat_lt
              clear hd hcl hv had
              generalize val ((bs.take (i + 1)).drop (m + 1)) = v at *
              go_wp2_with (fail)
              refine ⟨⟨m, by omega, rfl, ?_, trivial⟩, by simp [intOf]⟩
              have := u64_step v d.toNat
              rw [HV.out, ← this]
              congr 3
            · obtain rfl : m = 0 := by omega
              have hN := val_lt (bs.take (i + 1))
              have e0 : (bs.take (i + 1)).drop 0 = bs.take (i + 1) := rfl
              rw [e0]
              have hat := takeN_at (bs := bs) (k := i + 1) (by omega) (by rw [HL.out]; omega) (fun j b' hj hb' => hba.out j b' (by omega) hb') (fun b' hb' => by
                rw [show i + 1 - 1 = i by omega, HBK.out] at hb'
                obtain rfl := Option.some.inj hb'
                omega)
              have hpre := HR.out.pre (k := i + 1) (by omega)
              have HAT := Lib.hid hat
              have HP := Lib.hid hpre
              clear hat hpre e0 hm0 hm
              generalize val (bs.take (i + 1)) = N at *
              have h10 := numB_len10 hN
              by_cases hq : numB N = bs.take (i + 1)
              · have hk : takeN bs = (N, i + 1) := by rw [HAT.out, if_pos hq]
                have HQ := Lib.hid hq
                have HK := Lib.hid hk
                clear hk hq
                go_wp2_with (fail)
                go_region_with (first | (go_at_call 39; refine (num5 N _ hN).mono ?_; rintro e w2 ⟨A2, c2, rfl, hown2, hb2⟩; have HO2 := Lib.hid hown2; clear hown2) | (go_at_call 19; refine (equalB true A2 (some ad) (numB N).length c2 (i + 1) c _ _ (numB N) (bs.take (i + 1)) _ (Reads.of_own HO2.out) (HP.out.keep (fun p hp => hb2.cell (Nat.lt_of_lt_of_le hp hB))) (by omega) (by omega) (decide_eq_true HQ.out)).mono ?_; rintro e w3 ⟨rfl, hb3⟩))
                go_wp2_with (fail)
                all_goals
                  go_ret2
                  exact ⟨by rw [HK.out]; rfl, (bundrew hb2).trans (hb3.mono (bundrew hb2).size)⟩
              · have hk : takeN bs = (0, 0) := by rw [HAT.out, if_neg hq]
                have HQ := Lib.hid hq
                have HK := Lib.hid hk
                clear hk hq
                go_wp2_with (fail)
                go_region_with (first | (go_at_call 39; refine (num5 N _ hN).mono ?_; rintro e w2 ⟨A2, c2, rfl, hown2, hb2⟩; have HO2 := Lib.hid hown2; clear hown2) | (go_at_call 19; refine (equalB false A2 (some ad) (numB N).length c2 (i + 1) c _ _ (numB N) (bs.take (i + 1)) _ (Reads.of_own HO2.out) (HP.out.keep (fun p hp => hb2.cell (Nat.lt_of_lt_of_le hp hB))) (by omega) (by omega) (decide_eq_false HQ.out)).mono ?_; rintro e w3 ⟨rfl, hb3⟩))
                go_wp2_with (fail)
                all_goals
                  go_ret2
                  exact ⟨by rw [HK.out]; rfl, (bundrew hb2).trans (hb3.mono (bundrew hb2).size)⟩
      · have g2 : decide ((i : Int) + 1 ≤ 10) = false := decide_eq_false (by omega)
        have HK := Lib.hid (takeN_none (bs := bs) (fun j b' hj hb' => HM.out j b' (by omega) hb'))
        go_wp2_with (fail)
        go_ret2
        exact ⟨by rw [HK.out]; rfl, Below.refl _ _⟩
    · have g1 : decide (i + 1 ≤ n) = false := decide_eq_false (by omega)
      have g1' : decide ((i : Int) + 1 ≤ (n : Int)) = false := decide_eq_false (by omega)
      have HK := Lib.hid (takeN_none (bs := bs) (fun j b' hj hb' => HM.out j b' (by have := (List.getElem?_eq_some_iff.1 hb').1; have := HL.out; omega) hb'))
      go_wp2_with (fail)
      go_ret2
      exact ⟨by rw [HK.out]; rfl, Below.refl _ _⟩
end Go.Proofs.YtgonklbjbgekoaaDoor
