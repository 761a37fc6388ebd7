/- selionlaw02.Good, .turns, spans.Set.First at a good set. No condition but the number of spans. -/
import Derived.Test.YtccmalpbejednaaDoorSpanRow
import Derived.IntWalk
namespace Go.Proofs.YtccmalpbejednaaDoor
open Go Go.Proofs Go.RowKit

theorem goodS_get {xs : List (Int × Int)} (h : goodS xs) {k : Nat} {s : Int × Int} (hk : xs[k]? = some s) : 0 ≤ s.1 ∧ s.1 ≤ s.2 ∧ s.2 < 18446744073709551616 := h.1 s (List.mem_of_getElem? hk)
theorem goodS_next {xs : List (Int × Int)} (h : goodS xs) {k : Nat} {s t : Int × Int} (hk : xs[k]? = some s) (hk1 : xs[k + 1]? = some t) : s.2 + 1 < t.1 := by
  obtain ⟨h1, rfl⟩ := List.getElem?_eq_some_iff.1 hk
  obtain ⟨h2, rfl⟩ := List.getElem?_eq_some_iff.1 hk1
  exact List.pairwise_iff_getElem.1 h.2 k (k + 1) h1 h2 (by omega)
set_option maxHeartbeats 2000000 in
theorem goodAny (A : Option Addr) (n c B : Nat) (xs : List (Int × Int)) (w : World) (hr : SpanRow w B A n xs) (hB : B ≤ w.heap.size) (hn : n ≤ 1000000000) (hg : goodS xs) :
    Calls Tryd.prog 17 #[.slice A n c] w fun e w' => e = .returned (.bool true) ∧ Below w.heap.size w w' := by
  go_enter Tryd.func17, Tryd.ntmps17
  go_wp2_with (fail)
  go_loopw [7] (fun i wr => ∃ k : Nat, k ≤ n ∧ i = .int .i64 k ∧ Below w.heap.size w wr) (fun i _ => n - (intOf i).toNat)
  case atStart => exact ⟨0, Nat.zero_le _, rfl, Below.refl _ _⟩
  case round =>
    obtain ⟨k, hk, rfl, hb⟩ := hrel
    have hsz := hb.size
    by_cases hlt : k < n
    · have hlen := hr.len
      obtain ⟨s, hs⟩ : ∃ s, xs[k]? = some s := ⟨xs[k]'(by omega), List.getElem?_eq_getElem (by omega)⟩
      obtain ⟨b, off, rfl, hbl, d0, d1⟩ := hr.at_ hs
      replace d0 := cellk hb (p := ⟨b, off + k * 2, none⟩) (by simp; omega) d0
      replace d1 := cellk hb (p := ⟨b, off + k * 2 + 1, none⟩) (by simp; omega) d1
      have hin0 : (0 : Int) ≤ (k : Int) := by omega
      have hin1 : (k : Int) < (n : Int) := by omega
      obtain ⟨hs0, hs1, hs2⟩ := goodS_get hg hs
      have hd1 : decide (s.1 > s.2) = false := by simp; omega
      rcases Nat.eq_zero_or_pos k with rfl | hpos
      · clear hr hg hs hlen
        rw [Nat.zero_mul, Nat.add_zero] at d0 d1
        go_wp2_with (fail)
        go_quiet (fail)
        go_wp2_with (fail)
        exact ⟨⟨1, hlt, rfl, bdrewN (hb.alloc hsz _) _⟩, by simp [intOf]; omega⟩
      · obtain ⟨j, rfl⟩ : ∃ j, k = j + 1 := ⟨k - 1, by omega⟩
        obtain ⟨t, ht⟩ : ∃ t, xs[j]? = some t := ⟨xs[j]'(by omega), List.getElem?_eq_getElem (by omega)⟩
        obtain ⟨b', off', e', _, _, f1⟩ := hr.at_ ht
        obtain ⟨rfl, rfl⟩ : b = b' ∧ off = off' := by simpa using e'
        replace f1 := cellk hb (p := ⟨b, off + j * 2 + 1, none⟩) (by simp; omega) f1
        have hnx := goodS_next hg ht hs
        obtain ⟨ht0, ht1, ht2⟩ := goodS_get hg ht
        clear hr hg hs ht hlen e'
        have hj0 : (0 : Int) ≤ (j : Int) := by omega
        have hj1 : (j : Int) < (n : Int) := by omega
        have hd2 : decide (s.1 ≤ t.2) = false := by simp; omega
        have hd3 : (t.2 + 1 == s.1) = false := by simp; omega
        have hw1 : IntKind.u64.wrap (t.2 + 1) = t.2 + 1 := by show (t.2 + 1) % 18446744073709551616 = t.2 + 1; omega
        have hw2 : IntKind.i64.wrap (j : Int) = (j : Int) := IntWalk.i64_in _ (by omega)
        replace f1 := calloc f1 (.cells #[.int .u64 s.1, .int .u64 s.2] 31)
        clear hnx hs2 ht2 hs0 ht0
        go_wp2_with (fail)
        go_quiet (fail)
        go_wp2_with (fail)
        exact ⟨⟨j + 1 + 1, by omega, by go_num, bdrewN (hb.alloc hsz _) _⟩, by simp [intOf]; omega⟩
    · go_wp2_with (fail)
      go_ret
      exact ⟨rfl, hb⟩
def firstF : List (Int × Int) → Int
  | [] => 0
  | s :: _ => s.1
def anyF : List (Int × Int) → Bool
  | [] => false
  | _ :: _ => true
theorem firstAny (A : Option Addr) (n c B : Nat) (xs : List (Int × Int)) (w : World) (hr : SpanRow w B A n xs) (hn : n ≤ 1000000000) :
    Calls Tryd.prog 21 #[.slice A n c] w fun e w' => e = .returned (.tuple #[.int .u64 (firstF xs), .bool (anyF xs)]) ∧ w' = w := by
  cases xs with
  | nil =>
    rw [show firstF [] = 0 from rfl, show anyF [] = false from rfl]
    obtain rfl : n = 0 := hr.len.symm
    go_enter Tryd.func21, Tryd.ntmps21
    go_wp2_with (fail)
    go_ret2
    exact ⟨rfl, rfl⟩
  | cons s r =>
    rw [show firstF (s :: r) = s.1 from rfl, show anyF (s :: r) = true from rfl]
    have hlen := hr.len
    rw [List.length_cons] at hlen
    obtain ⟨b, off, rfl, hbl, d0, d1⟩ := hr.at_ (k := 0) (s := s) rfl
    rw [Nat.zero_mul, Nat.add_zero] at d0
    have hn0 : (0 : Int) < (n : Int) := by omega
    have hn1 : ¬ (n : Int) = 0 := by omega
    have hn2 : 0 < n := by omega
    clear hlen hr d1
    go_enter Tryd.func21, Tryd.ntmps21
    go_wp2_with (fail)
    go_ret2
    exact ⟨rfl, rfl⟩
/-- The times at which anything may turn, as selionlaw02.turns has them. -/
def turn6 (s : Int × Int) : List Int := [IntKind.u64.wrap (s.1 - 1), s.1, IntKind.u64.wrap (s.1 + 1), IntKind.u64.wrap (s.2 - 1), s.2, IntKind.u64.wrap (s.2 + 1)]
def turnsF (xs : List (Int × Int)) : List Int := [0, 18446744073709551615] ++ xs.flatMap turn6
theorem turnsF_step {xs : List (Int × Int)} {k : Nat} {s : Int × Int} (h : xs[k]? = some s) : turnsF (xs.take (k + 1)) = turnsF (xs.take k) ++ turn6 s := by
  have hk := (List.getElem?_eq_some_iff.1 h).1
  have hs : xs[k] = s := by rw [List.getElem?_eq_getElem hk] at h; exact Option.some.inj h
  rw [List.take_succ_eq_append_getElem hk, hs]
  unfold turnsF
  rw [List.flatMap_append, ← List.append_assoc]
  simp
theorem turnsF_length (xs : List (Int × Int)) : (turnsF xs).length = 2 + xs.length * 6 := by
  unfold turnsF
  rw [List.length_append]
  congr 1
  induction xs with
  | nil => rfl
  | cons x xs ih => rw [List.flatMap_cons, List.length_append, ih, List.length_cons]; simp [turn6]; omega
set_option maxHeartbeats 2000000 in
set_option maxRecDepth 100000 in
theorem turnsAny (A : Option Addr) (n c B : Nat) (xs : List (Int × Int)) (w : World) (hr : SpanRow w B A n xs) (hB : B ≤ w.heap.size) (hn : n ≤ 1000000000) :
    Calls Tryd.prog 18 #[.slice A n c] w fun e w' => ∃ v, e = .returned v ∧ w'.ownsRow w.heap.size 29 1 v (turnsF xs).length ((turnsF xs).map (.int .u64)) ∧ Below w.heap.size w w' := by
  obtain ⟨i0, hi, hz0, hz1, hz2⟩ := info_parts info_u64
  go_enter Tryd.func18, Tryd.ntmps18
  go_wp2_with (fail)
  go_loopw [3, 9] (fun v i wr => ∃ k : Nat, k ≤ n ∧ i = .int .i64 k ∧ wr.ownsRow w.heap.size 29 1 v (turnsF (xs.take k)).length ((turnsF (xs.take k)).map (.int .u64)) ∧ Below w.heap.size w wr) (fun _ i _ => n - (intOf i).toNat)
  case atStart => exact ⟨0, Nat.zero_le _, rfl, owns_new (heap_alloc_new _ _) (by unfold maxLen; show 2 ≤ _; omega) rfl (Nat.le_refl _), (Below.refl _ _).alloc (Nat.le_refl _) _⟩
  case round =>
    obtain ⟨k, hk, rfl, hown, hb⟩ := hrel
    have hsz := hb.size
    by_cases hlt : k < n
    · have hlen := hr.len
      obtain ⟨s, hs⟩ : ∃ s, xs[k]? = some s := ⟨xs[k]'(by omega), List.getElem?_eq_getElem (by omega)⟩
      obtain ⟨b, off, rfl, hbl, d0, d1⟩ := hr.at_ hs
      replace d0 := cellk hb (p := ⟨b, off + k * 2, none⟩) (by simp; omega) d0
      replace d1 := cellk hb (p := ⟨b, off + k * 2 + 1, none⟩) (by simp; omega) d1
      have hin0 : (0 : Int) ≤ (k : Int) := by omega
      have hin1 : (k : Int) < (n : Int) := by omega
      have hst := turnsF_step hs
      have htl := turnsF_length (xs.take k)
      have htk : (xs.take k).length ≤ n := by rw [List.length_take]; omega
      have HST := Lib.hid hst
      have hown' := Lib.hid hown
      obtain ⟨A1, c1, rfl, hc1⟩ := owns_form hown
      clear hst hown
      have hmb : (turnsF (xs.take k)).length ≤ 2 + n * 6 := by omega
      generalize hT : (turnsF (xs.take k)).length = m at *
      clear htl htk
      have HT := Lib.hid hT
      clear hT
      go_wp2_with (at_builtin; (refine wpList_append_own _ rfl (.tmp 13) (.tmp 30) 33 rfl w.heap.size 29 i0 (.int .u64 0) 1 8 Tryd.underlying33 hi hz0 hz1 hz2 rfl (by decide) _ m ((turnsF (xs.take k)).map (.int .u64)) rfl ((hown'.out.alloc _).alloc _) ⟨wr.heap.size + 1, 0, none⟩ 6 6 ((turn6 s).map (.int .u64)) rfl rfl (World.news_of_block (cs := ((turn6 s).map (Value.int .u64)).toArray) (t := 29) (fr := (0, 0)) (heap_new_at (by simp))) (by simp [turn6, Value.oneCell']) (by unfold maxLen; omega) (by omega) (by simp; omega) ?_; intro v5 w5 hown5 hgr5 _))
      refine ⟨⟨k + 1, by omega, by go_num, ?_, ?_⟩, ?_⟩
      · rw [HST.out, List.length_append, List.map_append, HT.out]
        exact hown5
      · exact ((hb.alloc hsz _).alloc (by simp; omega) _).grown hgr5 (by simp; omega) (fun j hj => (hown'.out.lt j hj).1)
      · simp [intOf]; omega
    · obtain rfl : k = n := by omega
      rw [show xs.take k = xs from List.take_of_length_le (by rw [hr.len]; omega)] at hown
      go_wp2_with (fail)
      go_ret
      exact ⟨_, rfl, hown, hb⟩
end Go.Proofs.YtccmalpbejednaaDoor
