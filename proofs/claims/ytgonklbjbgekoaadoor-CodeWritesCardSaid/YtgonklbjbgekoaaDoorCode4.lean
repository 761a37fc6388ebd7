/- Texts read: what Reader.Text, Reader.End answer. Condition: not too many bytes. -/
import Derived.Test.YtgonklbjbgekoaaDoorCode3
import Derived.Test.YtgonklbjbgekoaaDoorBytes2
namespace Go.Proofs.YtgonklbjbgekoaaDoor
open Go Go.Proofs Go.RowKit

set_option maxHeartbeats 1000000 in
theorem endR (p : Nat) (bs : List UInt8) (bad v : Bool) (w : World) (h : RdAt w p bs bad) (hv : (!bad && decide (bs.length = 0)) = v) :
    Calls Tryd.prog 38 #[.pointer (some ⟨p, 0, none⟩)] w fun e w' => e = .returned (.bool v) ∧ w' = w := by
  obtain ⟨A, c, h1, h2, h3, h4⟩ := h
  have d0 : w.cell? ⟨p, 0, none⟩ = some (.slice A bs.length c) := by rw [cell_of_blk h1]; rfl
  have d1 : w.cell? ⟨p, 1, none⟩ = some (.bool bad) := by rw [cell_of_blk h1]; rfl
  have hb1 : ((bs.length : Int) == 0) = decide (bs.length = 0) := by rw [Bool.eq_iff_iff]; simp
  clear h1 h2 h3 h4
  have HV := Lib.hid hv
  clear hv
  cases bad with
  | true =>
    obtain rfl : v = false := by rw [← HV.out]; rfl
    go_enter Tryd.func38, Tryd.ntmps38
    go_wp2_with (fail)
    go_ret
    exact ⟨rfl, rfl⟩
  | false =>
    have HV2 : Hid (decide (bs.length = 0) = v) := Lib.hid (by rw [← HV.out]; rfl)
    generalize bs.length = n at *
    by_cases hn : n = 0
    · obtain rfl : v = true := by rw [← HV2.out]; exact decide_eq_true hn
      subst hn
      clear hb1
      go_enter Tryd.func38, Tryd.ntmps38
      go_wp2_with (fail)
      go_ret
      exact ⟨rfl, rfl⟩
    · obtain rfl : v = false := by rw [← HV2.out]; exact decide_eq_false hn
      have hb2 : ((n : Int) == 0) = false := by simpa using hn
      clear hb1
      go_enter Tryd.func38, Tryd.ntmps38
      go_wp2_with (fail)
      go_ret
      exact ⟨rfl, rfl⟩
/-- What is read as a text, of so many bytes at most. -/
def readText (bs : List UInt8) (most : Nat) : Option (Txt × List UInt8) := match readNum bs with
  | some (n, r) => if n ≤ r.length ∧ n ≤ most then some (r.take n, r.drop n) else none
  | none => none
def RetTextR (w : World) (p : Nat) (bs : List UInt8) (bad : Bool) (most : Nat) (e : Ending) (w' : World) : Prop :=
  match bad, readText bs most with
  | false, some (s, r) => e = .returned (txt s) ∧ RdAt w' p r false ∧ Mod (· = p) w w'
  | _, _ => e = .returned (txt []) ∧ (∃ bs', bs'.length ≤ bs.length ∧ RdAt w' p bs' true) ∧ Mod (· = p) w w'
theorem retTextR_bad {w w' : World} {p most : Nat} {bs : List UInt8} {bad : Bool} {e : Ending} (h : bad = true ∨ readText bs most = none) (he : e = .returned (txt [])) {bs' : List UInt8} (hl : bs'.length ≤ bs.length) (hr : RdAt w' p bs' true) (hm : Mod (· = p) w w') : RetTextR w p bs bad most e w' := by
  unfold RetTextR
  rcases h with rfl | h
  · exact ⟨he, ⟨bs', hl, hr⟩, hm⟩
  · rw [h]
    cases bad <;> exact ⟨he, ⟨bs', hl, hr⟩, hm⟩
theorem retTextR_ok {w w' : World} {p most : Nat} {bs r : List UInt8} {s : Txt} {e : Ending} (h : readText bs most = some (s, r)) (he : e = .returned (txt s)) (hr : RdAt w' p r false) (hm : Mod (· = p) w w') : RetTextR w p bs false most e w' := by
  unfold RetTextR
  rw [h]
  exact ⟨he, hr, hm⟩
theorem rdAt_bad {w : World} {p c : Nat} {bs : List UInt8} {A : Option Addr} {bad : Bool} (h1 : w.heap[p]? = some (.cells #[.slice A bs.length c, .bool bad] 68 (0, 0))) (h2 : Reads w w.heap.size 1 A bs.length (bv bs)) (h3 : bs.length ≤ c) (h4 : ∀ g, A.map (·.block) = some g → g ≠ p) :
    RdAt (w.setCell ⟨p, 1, none⟩ (.bool true)) p bs true ∧ Mod (· = p) w (w.setCell ⟨p, 1, none⟩ (.bool true)) := by
  have hm : Mod (· = p) w (w.setCell ⟨p, 1, none⟩ (.bool true)) := (Mod.refl (· = p) w).setCell (p := ⟨p, 1, none⟩) (fun _ => rfl) _
  refine ⟨⟨A, c, ?_, ?_, h3, h4⟩, hm⟩
  · have := blk_set h1 1 (.bool true)
    simpa using this
  · exact (h2.mod' hm (Nat.le_refl _) (fun g hg _ => h4 g hg)).more hm.size
set_option maxHeartbeats 4000000 in
set_option maxRecDepth 100000 in
theorem textR (p most : Nat) (bs : List UInt8) (bad : Bool) (w : World) (h : RdAt w p bs bad) (hb : bs.length ≤ 1000000) (hm : most ≤ 1000000) :
    Calls Tryd.prog 37 #[.pointer (some ⟨p, 0, none⟩), .int .i64 most] w (RetTextR w p bs bad most) := by
  have HRD := Lib.hid h
  clear h
  go_enter Tryd.func37, Tryd.ntmps37
  go_wp2_with (fail)
  refine (numR p bs bad w HRD.out hb).mono ?_
  intro e w1 h1
  by_cases hno : bad = true ∨ readNum bs = none
  · have h2 : e = .returned (.int .u64 0) ∧ RdAt w1 p bs true ∧ Mod (· = p) w w1 := by
      unfold RetNumR at h1
      rcases hno with rfl | hno
      · exact h1
      · rw [hno] at h1
        cases bad <;> exact h1
    obtain ⟨rfl, ⟨A, c, g1, g2, g3, g4⟩, hm1⟩ := h2
    have hno2 : bad = true ∨ readText bs most = none := hno.imp id fun h => by unfold readText; rw [h]
    have d0 : w1.cell? ⟨p, 0, none⟩ = some (.slice A bs.length c) := by rw [cell_of_blk g1]; rfl
    have d1 : w1.cell? ⟨p, 1, none⟩ = some (.bool true) := by rw [cell_of_blk g1]; rfl
    have e1 : w1.frozen? ⟨p, 1, none⟩ = false := frozen_of_blk g1 1
    have HE := Lib.hid (rdAt_bad g1 g2 g3 g4)
    have HN := Lib.hid hno2
    have HM := Lib.hid hm1
    clear h1 g1 g2 g3 g4 hno hno2 hm1
    go_wp2_with (fail)
    go_ret
    exact retTextR_bad HN.out rfl (Nat.le_refl _) HE.out.1 (HM.out.trans HE.out.2 (fun _ _ h => h))
  · obtain rfl : bad = false := by cases bad; rfl; exact absurd (.inl rfl) hno
    obtain ⟨⟨n, r⟩, hr⟩ : ∃ x, readNum bs = some x := Option.ne_none_iff_exists'.1 fun h => hno (.inr h)
    clear hno
    unfold RetNumR at h1
    rw [hr] at h1
    obtain ⟨rfl, ⟨A, c, g1, g2, g3, g4⟩, hm1⟩ := h1
    obtain ⟨hbs, hn64⟩ := readNum_some hr
    have hrl : r.length ≤ bs.length := by rw [hbs, List.length_append]; omega
    have d0 : w1.cell? ⟨p, 0, none⟩ = some (.slice A r.length c) := by rw [cell_of_blk g1]; rfl
    have d1 : w1.cell? ⟨p, 1, none⟩ = some (.bool false) := by rw [cell_of_blk g1]; rfl
    have e0 : w1.frozen? ⟨p, 0, none⟩ = false := frozen_of_blk g1 0
    have e1 : w1.frozen? ⟨p, 1, none⟩ = false := frozen_of_blk g1 1
    have HR := Lib.hid hr
    have HM := Lib.hid hm1
    clear hr hm1 hbs
    by_cases hok : n ≤ r.length ∧ n ≤ most
    · obtain ⟨hn1, hn2⟩ := hok
      have hok : readText bs most = some (r.take n, r.drop n) := by unfold readText; rw [HR.out]; simp [hn1, hn2]
      have HOK := Lib.hid hok
      have q1 : decide ((r.length : Int) < (n : Int)) = false := decide_eq_false (by omega)
      have q2 : decide ((most : Int) < (n : Int)) = false := decide_eq_false (by omega)
      have q3 : r.length ≤ c := g3
      have q4 : n ≤ c := by omega
      have q5 : (n : Int) ≤ (c : Int) := by omega
      have q6 : (n : Int) ≤ (r.length : Int) := by omega
      have htk : Reads w1 w1.heap.size 1 A n (bv (r.take n)) := by
        refine ⟨by rw [bv_length, List.length_take]; omega, fun hp => ?_⟩
        obtain ⟨ad, rfl, hbl, hc⟩ := g2.2 (by omega)
        refine ⟨ad, rfl, hbl, fun j u hu => hc j u ?_⟩
        rw [bv_take, List.getElem?_take] at hu
        split at hu
        · exact hu
        · cases hu
      have hcv := fun c' => convB A n c' _ (r.take n) w1 htk
      have HE := fun v hv => rdAt_cut (v := v) g1 g2 g3 g4 hn1 hv
      have HE2 := Lib.hid HE
      have HG2 := Lib.hid g2
      clear HE
      have HE := HE2
      clear HE2 g1 g2 g3 g4 hok htk
      cases A with
      | none =>
        have hr0 : r = [] := by
          have := HG2.out.2
          rcases Nat.eq_zero_or_pos r.length with h | h
          · exact List.length_eq_zero_iff.1 h
          · obtain ⟨_, h, _⟩ := this h
            cases h
        subst hr0
        obtain rfl : n = 0 := by simpa using hn1
        have hcv0 := hcv c
        simp only [List.take_nil, List.drop_nil, List.length_nil] at hcv0 d0 HE HOK
        clear hcv q1 q2 q5 q6
        go_wp2_with (fail)
        all_goals
          go_ret
          refine (fun (hE : RdAt _ p [] false ∧ Mod (· = p) w1 _) => retTextR_ok HOK.out rfl hE.1 (HM.out.trans hE.2 (fun _ _ h => h))) (HE.out _ ?_)
          simp
      | some ad =>
        go_wp2_with (fail)
        all_goals
          go_ret
          refine (fun (hE : RdAt _ p (r.drop n) false ∧ Mod (· = p) w1 _) => retTextR_ok HOK.out rfl hE.1 (HM.out.trans hE.2 (fun _ _ h => h))) (HE.out _ ?_)
        · subst h; simp
        · rw [if_neg h]; rfl
    · have hno : readText bs most = none := by unfold readText; rw [HR.out]; simp only [hok, if_false]
      have HN := Lib.hid hno
      have HE := Lib.hid (rdAt_bad g1 g2 g3 g4)
      clear g1 g2 g3 g4 hno
      by_cases hn1 : r.length < n
      · have q1 : decide ((r.length : Int) < (n : Int)) = true := decide_eq_true (by omega)
        have q3 : r.length < n := hn1
        clear hok
        go_wp2_with (fail)
        go_ret
        exact retTextR_bad (.inr HN.out) rfl hrl HE.out.1 (HM.out.trans HE.out.2 (fun _ _ h => h))
      · have q1 : decide ((r.length : Int) < (n : Int)) = false := decide_eq_false (by omega)
        have q2 : decide ((most : Int) < (n : Int)) = true := decide_eq_true (by omega)
        have q3 : most < n := by omega
        clear hok
        go_wp2_with (fail)
        go_ret
        exact retTextR_bad (.inr HN.out) rfl hrl HE.out.1 (HM.out.trans HE.out.2 (fun _ _ h => h))
end Go.Proofs.YtgonklbjbgekoaaDoor
