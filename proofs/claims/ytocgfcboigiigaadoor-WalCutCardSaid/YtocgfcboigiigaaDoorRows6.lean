/- Rows of bytes: read, compared (slices.EqualFunc). Condition: not too many. -/
import Derived.Test.YtocgfcboigiigaaDoorLawApart6
namespace Go.Proofs.YtocgfcboigiigaaDoor
open Go Go.Proofs Go.RowKit

/-- A slice of slices of bytes. -/
def RowsAt (w : World) (B : Nat) (A : Option Addr) (n : Nat) (L : BL) : Prop := Reads w B 1 A n (L.map slV) ∧ BLok w B L
def bytesOf (L : BL) : List (List UInt8) := L.map (·.2.2.2)
theorem RowsAt.len {w : World} {B n : Nat} {A : Option Addr} {L : BL} (h : RowsAt w B A n L) : L.length = n := by have := h.1.1; rw [List.length_map] at this; omega
theorem RowsAt.below {w w' : World} {B n : Nat} {A : Option Addr} {L : BL} (h : RowsAt w B A n L) (hb : Below B w w') : RowsAt w' B A n L := ⟨h.1.below hb, fun x hx => (h.2 x hx).below hb⟩
theorem RowsAt.more {w : World} {B B' n : Nat} {A : Option Addr} {L : BL} (h : RowsAt w B A n L) (hB : B ≤ B') : RowsAt w B' A n L := ⟨h.1.more hB, fun x hx => (h.2 x hx).more hB⟩
theorem RowsAt.pre {w : World} {B n k : Nat} {A : Option Addr} {L : BL} (h : RowsAt w B A n L) (hk : k ≤ n) : RowsAt w B A k (L.take k) := by
  have hl := h.len
  refine ⟨⟨by rw [List.length_map, List.length_take]; omega, fun hp => ?_⟩, fun x hx => h.2 x (List.mem_of_mem_take hx)⟩
  obtain ⟨ad, rfl, hbl, hc⟩ := h.1.2 (by omega)
  refine ⟨ad, rfl, hbl, fun j u hu => hc j u ?_⟩
  rw [List.map_take, List.getElem?_take] at hu
  split at hu
  · exact hu
  · cases hu
theorem Pieces.rows {w : World} {base : Nat} {v : Value} {ps : List (List UInt8)} (h : Pieces w base v ps) : ∃ A c L, v = .slice A ps.length c ∧ RowsAt w w.heap.size A ps.length L ∧ bytesOf L = ps := by
  obtain ⟨L, h1, h2, h3⟩ := h
  obtain ⟨A, c, rfl, _⟩ := owns_form h2
  exact ⟨A, c, L, rfl, ⟨Reads.of_own h2, fun x hx => Reads.of_own (h3 x hx)⟩, h1.symm⟩
theorem bytesOf_get {L : BL} {k : Nat} {x : Option Addr × Nat × Nat × List UInt8} (h : L[k]? = some x) : (bytesOf L)[k]? = some x.2.2.2 := by simp [bytesOf, h]
set_option maxHeartbeats 2000000 in
set_option maxRecDepth 100000 in
theorem eqRows (v : Bool) (A A' : Option Addr) (n c n' c' B B' : Nat) (L L' : BL) (w : World) (hr : RowsAt w B A n L) (hr' : RowsAt w B' A' n' L') (hs : ∀ x ∈ L, x.2.1 ≤ 1000000000) (hs' : ∀ x ∈ L', x.2.1 ≤ 1000000000) (hv : decide (bytesOf L = bytesOf L') = v) (hn : n ≤ 1000000000) :
    Calls Tryd.prog 23 #[.slice A n c, .slice A' n' c', .func (.func 19) #[] #[]] w fun e w' => e = .returned (.bool v) ∧ ∃ q, w' = w.drewN q := by
  have hl := hr.len
  have hl' := hr'.len
  by_cases hnn : n = n'
  · subst hnn
    have HR := Lib.hid hr
    have HR' := Lib.hid hr'
    have HS := Lib.hid hs
    have HS' := Lib.hid hs'
    have HL := Lib.hid hl
    have HL' := Lib.hid hl'
    have HV := Lib.hid hv
    clear hr hr' hs hs' hl hl' hv
    go_enter Tryd.func23, Tryd.ntmps23
    go_wp2_with (fail)
    go_loopw [17] (fun i wr => ∃ k : Nat, k ≤ n ∧ i = .int .i64 k ∧ Hid ((bytesOf L).take k = (bytesOf L').take k) ∧ ∃ q, wr = w.drewN q) (fun i _ => n - (intOf i).toNat)
    case atStart => exact ⟨0, Nat.zero_le _, rfl, Lib.hid rfl, 0, rfl⟩
    case round =>
      obtain ⟨k, hk, rfl, hE, q, rfl⟩ := hrel
      by_cases hlt : k < n
      · obtain ⟨x, hx⟩ : ∃ x, L[k]? = some x := ⟨L[k]'(by rw [HL.out]; exact hlt), List.getElem?_eq_getElem _⟩
        obtain ⟨y, hy⟩ : ∃ y, L'[k]? = some y := ⟨L'[k]'(by rw [HL'.out]; exact hlt), List.getElem?_eq_getElem _⟩
        obtain ⟨ad, rfl, _, hc⟩ := HR.out.1.2 (by omega)
        obtain ⟨ad', rfl, _, hc'⟩ := HR'.out.1.2 (by omega)
        have d0 : w.cell? (ad.add k) = some (.slice x.1 x.2.1 x.2.2.1) := hc k (slV x) (by rw [List.getElem?_map, hx]; rfl)
        have d1 : w.cell? (ad'.add k) = some (.slice y.1 y.2.1 y.2.2.1) := hc' k (slV y) (by rw [List.getElem?_map, hy]; rfl)
        have r0 := HR.out.2 x (List.mem_of_getElem? hx)
        have r1 := HR'.out.2 y (List.mem_of_getElem? hy)
        have s0 := HS.out x (List.mem_of_getElem? hx)
        have s1 := HS'.out y (List.mem_of_getElem? hy)
        have gx := bytesOf_get hx
        have gy := bytesOf_get hy
        obtain ⟨a1, n1, c1, b1⟩ := x
        obtain ⟨a2, n2, c2, b2⟩ := y
        simp only at d0 d1 r0 r1 s0 s1 gx gy
        have hin0 : (0 : Int) ≤ (k : Int) := by omega
        have hin1 : (k : Int) < (n : Int) := by omega
        have R0 := Lib.hid r0
        have R1 := Lib.hid r1
        have GX := Lib.hid gx
        have GY := Lib.hid gy
        clear hx hy hc hc' r0 r1 gx gy
        by_cases he : b1 = b2
        · subst he
          go_wp2_with (fail)
          refine (equalBq true a1 a2 n1 c1 n2 c2 _ _ b1 b1 (w.drewN q) R0.out R1.out s0 s1 (decide_eq_true rfl)).mono ?_
          rintro e w1 ⟨rfl, q1, rfl⟩
          go_wp2_with (fail)
          refine ⟨⟨k + 1, by omega, by go_num, Lib.hid (take_snoc_eq' hE.out GX.out GY.out), q + q1, by simp⟩, by simp [intOf]; omega⟩
        · have hF : v = false := by
            rw [← HV.out]
            exact decide_eq_false fun h => he (Option.some.inj (GX.out.symm.trans ((congrArg (·[k]?) h).trans GY.out)))
          subst hF
          go_wp2_with (fail)
          refine (equalBq false a1 a2 n1 c1 n2 c2 _ _ b1 b2 (w.drewN q) R0.out R1.out s0 s1 (decide_eq_false he)).mono ?_
          rintro e w1 ⟨rfl, q1, rfl⟩
          clear he
          go_wp2_with (fail)
          go_ret
          exact ⟨rfl, q + q1, by simp⟩
      · obtain rfl : k = n := by omega
        have hT : v = true := by
          rw [← HV.out]
          have := hE.out
          rw [List.take_of_length_le (by simp [bytesOf, HL.out]), List.take_of_length_le (by simp [bytesOf, HL'.out])] at this
          exact decide_eq_true this
        subst hT
        go_wp2_with (fail)
        go_ret
        exact ⟨rfl, q, rfl⟩
  · have hF : v = false := by
      rw [← hv]
      exact decide_eq_false fun h => hnn (by have := congrArg List.length h; simp only [bytesOf, List.length_map] at this; omega)
    subst hF
    have hb1 : ((n : Int) == (n' : Int)) = false := by simp; omega
    have hb2 : ((n : Int) != (n' : Int)) = true := by simp; omega
    clear hv hr hr' hl hl' hs hs'
    go_enter Tryd.func23, Tryd.ntmps23
    go_wp2_with (fail)
    go_ret
    exact ⟨rfl, 0, rfl⟩
/-- Pieces in their wrapping, one behind the other. -/
def rowsF (ps : List (List UInt8)) : List UInt8 := ps.flatMap wrapF
theorem rowsF_cons (p : List UInt8) (ps : List (List UInt8)) : rowsF (p :: ps) = wrapF p ++ rowsF ps := rfl
theorem rowsF_append (a b : List (List UInt8)) : rowsF (a ++ b) = rowsF a ++ rowsF b := by simp [rowsF]
theorem splitF_rows (ps : List (List UInt8)) (r : List UInt8) (h : ∀ p ∈ ps, p.length < 2 ^ 32) : splitF (rowsF ps ++ r) = (ps ++ (splitF r).1, (rowsF ps).length + (splitF r).2) := by
  induction ps with
  | nil => simp [rowsF]
  | cons p ps ih =>
    rw [rowsF_cons, List.append_assoc, splitF_wrap p _ (h p List.mem_cons_self), ih fun q hq => h q (List.mem_cons_of_mem _ hq), List.length_append, wrapF_len]
    simp only [List.cons_append, Prod.mk.injEq, true_and]
    omega
theorem splitF_all (ps : List (List UInt8)) (h : ∀ p ∈ ps, p.length < 2 ^ 32) : splitF (rowsF ps) = (ps, (rowsF ps).length) := by
  have := splitF_rows ps [] h
  rwa [List.append_nil, splitF_nil, List.append_nil, Nat.add_zero] at this
theorem rowsF_take {ps : List (List UInt8)} {k : Nat} {p : List UInt8} (h : ps[k]? = some p) : rowsF (ps.take (k + 1)) = rowsF (ps.take k) ++ wrapF p := by
  rw [List.take_add_one, h, rowsF_append]
  simp [rowsF]
/-- Pieces that are cut off: the whole ones ahead of the cut. -/
theorem splitF_cut : ∀ (ps : List (List UInt8)) (k : Nat), (∀ p ∈ ps, p.length < 2 ^ 32) → ∃ N, N ≤ ps.length ∧ splitF ((rowsF ps).take k) = (ps.take N, (rowsF (ps.take N)).length) ∧ ∀ i, i < ps.length → ((rowsF (ps.take (i + 1))).length ≤ k ↔ i < N) := by
  intro ps
  induction ps with
  | nil => intro k _; exact ⟨0, Nat.le_refl _, by simp [rowsF, splitF_nil], fun i hi => by simp at hi⟩
  | cons p ps ih =>
    intro k hp
    have hw := wrapF_len p
    by_cases hk : p.length + 8 ≤ k
    · obtain ⟨N, h1, h2, h3⟩ := ih (k - (p.length + 8)) fun q hq => hp q (List.mem_cons_of_mem _ hq)
      refine ⟨N + 1, by simp; omega, ?_, fun i hi => ?_⟩
      · rw [rowsF_cons, List.take_append, List.take_of_length_le (by omega), hw, splitF_wrap p _ (hp p List.mem_cons_self), h2, List.take_succ_cons, rowsF_cons, List.length_append, hw]
        simp only [Prod.mk.injEq, true_and]
        omega
      · cases i with
        | zero =>
          rw [List.take_succ_cons, List.take_zero, rowsF_cons]
          simp [rowsF, hw, hk]
        | succ i =>
          have := h3 i (by simpa using hi)
          rw [List.take_succ_cons, rowsF_cons, List.length_append, hw]
          omega
    · refine ⟨0, Nat.zero_le _, ?_, fun i hi => ?_⟩
      · have hn : split1 ((rowsF (p :: ps)).take k) = none := by
          unfold split1
          rw [if_neg]
          rintro ⟨h1, h2, _⟩
          have hl : ((rowsF (p :: ps)).take k).length ≤ k := List.length_take_le _ _
          have e : num4 ((rowsF (p :: ps)).take k) = p.length := by
            rw [rowsF_cons, List.take_append, show k - (wrapF p).length = 0 by omega, List.take_zero, List.append_nil]
            unfold wrapF
            rw [List.append_assoc, List.take_append, List.take_of_length_le (by rw [fourF_len]; omega)]
            exact num4_four _ (hp p List.mem_cons_self) _
          omega
        rw [splitF_none hn]
        rfl
      · rw [List.take_succ_cons, rowsF_cons, List.length_append, hw]
        omega
end Go.Proofs.YtocgfcboigiigaaDoor
