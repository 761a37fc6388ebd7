/- The first layer's statements' fixed fact, and SpanHas: each answers true and leaves what was there as it was. Condition: the package's variable 'none' holds what its text lays. -/
import Derived.Test.YtendjifhdpeebaaDoorLess
import Derived.Test.YtendjifhdpeebaaDoorTimes
namespace Go.Proofs.YtendjifhdpeebaaDoor
open Go Go.Proofs Go.RowKit

theorem lessF_awake : lessF 2 9 4 5 = ((2, 3), (6, 9)) := by decide
theorem less_awake (w : World) (hn : NoneLaid w) :
    Calls Tryd.prog 18 #[.agg #[.int .u64 2, .int .u64 9], .agg #[.int .u64 4, .int .u64 5]] w fun e w' =>
      e = .returned (.tuple #[.agg #[.int .u64 2, .int .u64 3], .agg #[.int .u64 6, .int .u64 9]]) ∧ Below w.heap.size w w' := by
  have h := less_any 2 9 4 5 w hn (by omega) (by omega) (by omega) (by omega)
  rw [lessF_awake] at h
  exact h

theorem awake_any (w : World) (hn : NoneLaid w) :
    Calls Tryd.prog 9 #[] w fun e w' => e = .returned (.bool true) ∧ Below w.heap.size w w' := by
  go_enter Tryd.func9, Tryd.ntmps9
  go_wp2_with (first | (go_at_call 18; refine (less_awake _ hn).mono ?_; rintro e w1 ⟨rfl, hb1⟩; have hz1 := hb1.size; (try simp at hz1); ) | (go_at_call 12; refine (has_any _ _ _ _).mono ?_; rintro e w2 ⟨rfl, hb2⟩; have hz2 := hb2.size; (try simp at hz2); ))
  go_ret
  refine ⟨rfl, ?_⟩
  repeat (first | exact Below.refl _ _ | assumption | refine Below.drew ?_ | refine Below.setCell ?_ (by first | (simp; done) | omega | (simp; omega)) _ | refine Below.alloc ?_ (by first | (simp; done) | omega | (simp; omega)) _ | refine bdrewN ?_ _ | refine bstep ?_ (by assumption) (by first | (simp; done) | omega | (simp; omega)))

theorem make_some (lo hi near : Int) (w : World) (h1 : 0 ≤ lo) (h2 : lo < 18446744073709551616) (h3 : 0 ≤ hi) (h4 : hi < 18446744073709551616) (h5 : 0 ≤ near) (h6 : near < 256) :
    Calls Tryd.prog 10 #[.agg #[.int .u64 lo, .int .u64 hi, .int .u8 near]] w fun e w' => ∃ a b, ((0 ≤ a ∧ a < 18446744073709551616) ∧ 0 ≤ b ∧ b < 18446744073709551616) ∧ e = .returned (.agg #[.int .u64 a, .int .u64 b]) ∧ Below w.heap.size w w' :=
  (make_any lo hi near w h1 h2 h3 h4 h5 h6).mono fun _ _ ⟨he, hb⟩ => ⟨_, _, makeF_range lo hi near h1 h2 h3 h4, he, hb⟩

set_option maxHeartbeats 1000000 in
theorem spanHas_any (lo hi near t : Int) (w : World) (hn : NoneLaid w) (h1 : 0 ≤ lo) (h2 : lo < 18446744073709551616) (h3 : 0 ≤ hi) (h4 : hi < 18446744073709551616) (h5 : 0 ≤ near) (h6 : near < 256)
    (ht : 0 ≤ t ∧ t < 18446744073709551616) :
    Calls Tryd.prog 3 #[.agg #[.int .u64 lo, .int .u64 hi, .int .u8 near], .int .u64 t] w fun e w' => e = .returned (.bool true) ∧ Below w.heap.size w w' := by
  go_enter Tryd.func3, Tryd.ntmps3
  go_wp2_with (first
    | (go_at_call 9; refine (awake_any _ (hn.next (by repeat (first | exact Below.refl _ _ | assumption | refine Below.drew ?_ | refine Below.setCell ?_ (by first | (simp; done) | omega | (simp; omega)) _ | refine Below.alloc ?_ (by first | (simp; done) | omega | (simp; omega)) _ | refine bdrewN ?_ _ | refine bstep ?_ (by assumption) (by first | (simp; done) | omega | (simp; omega)))))).mono ?_; rintro e w1 ⟨rfl, hb1⟩; have hz1 := hb1.size; (try simp at hz1); have hx1_0 : w1.cell? ⟨w.heap.size, 0, none⟩ = some (.int .u64 lo) := cellk hb1 (by first | (simp; done) | (simp; omega) | omega) (by first | assumption | (simp; done) | (simp; assumption) | (go_simp; done)); have hy1_0 : w1.frozen? ⟨w.heap.size, 0, none⟩ = false := frzk hb1 (by first | (simp; done) | (simp; omega) | omega) (by first | assumption | (simp; done) | (simp; assumption) | (go_simp; done)); have hx1_1 : w1.cell? ⟨w.heap.size, 1, none⟩ = some (.int .u64 hi) := cellk hb1 (by first | (simp; done) | (simp; omega) | omega) (by first | assumption | (simp; done) | (simp; assumption) | (go_simp; done)); have hy1_1 : w1.frozen? ⟨w.heap.size, 1, none⟩ = false := frzk hb1 (by first | (simp; done) | (simp; omega) | omega) (by first | assumption | (simp; done) | (simp; assumption) | (go_simp; done)); have hx1_2 : w1.cell? ⟨w.heap.size, 2, none⟩ = some (.int .u8 near) := cellk hb1 (by first | (simp; done) | (simp; omega) | omega) (by first | assumption | (simp; done) | (simp; assumption) | (go_simp; done)); have hy1_2 : w1.frozen? ⟨w.heap.size, 2, none⟩ = false := frzk hb1 (by first | (simp; done) | (simp; omega) | omega) (by first | assumption | (simp; done) | (simp; assumption) | (go_simp; done)))
    | (go_at_call 10; refine (make_some _ _ _ _ h1 h2 h3 h4 h5 h6).mono ?_; rintro e w2 ⟨a, b, ⟨⟨ha1, ha2⟩, hb1', hb2'⟩, rfl, hb2⟩; have hz2 := hb2.size)
    | (go_at_call 11; refine (times_any t _ 1 1 [(a, b)] _ ht (by simp) rfl (by omega) (flat_cells (heap_new_at (by simp))) (by simp; omega)).mono ?_; rintro e w3 ⟨v3, ks, rfl, hown3, hks, hlen3, hb3⟩; have HL := Lib.hid hlen3; have hll : 0 < ks.length := (by omega); have hlu : ks.length ≤ 1000 := (by omega); clear hlen3; obtain ⟨A3, c3, rfl, hc3⟩ := owns_form hown3; obtain ⟨g3, rfl, hg3, hg3', hcell3⟩ := owns_at hown3 hll; have hz3 := hb3.size; simp at hz3; have hx3_0 : w3.cell? ⟨w2.heap.size, 0, none⟩ = some (.int .u64 a) := cellk hb3 (by first | (simp; done) | (simp; omega) | omega) (by first | assumption | (simp; done) | (simp; assumption) | (go_simp; done)); have hy3_0 : w3.frozen? ⟨w2.heap.size, 0, none⟩ = false := frzk hb3 (by first | (simp; done) | (simp; omega) | omega) (by first | assumption | (simp; done) | (simp; assumption) | (go_simp; done)); have hx3_1 : w3.cell? ⟨w2.heap.size, 1, none⟩ = some (.int .u64 b) := cellk hb3 (by first | (simp; done) | (simp; omega) | omega) (by first | assumption | (simp; done) | (simp; assumption) | (go_simp; done)); have hy3_1 : w3.frozen? ⟨w2.heap.size, 1, none⟩ = false := frzk hb3 (by first | (simp; done) | (simp; omega) | omega) (by first | assumption | (simp; done) | (simp; assumption) | (go_simp; done))))
  have hB3 : Below w.heap.size w w3 := by repeat (first | exact Below.refl _ _ | assumption | refine Below.drew ?_ | refine Below.setCell ?_ (by first | (simp; done) | omega | (simp; omega)) _ | refine Below.alloc ?_ (by first | (simp; done) | omega | (simp; omega)) _ | refine bdrewN ?_ _ | refine bstep ?_ (by assumption) (by first | (simp; done) | omega | (simp; omega)))
  clear hb1 hb2 hb3 hx1_0 hx1_1 hx1_2 hy1_0 hy1_1 hy1_2 hown3 hc3
  go_loopw [17] (fun i wr => ∃ k : Nat, k ≤ ks.length ∧ i = .int .i64 k ∧ Below w3.heap.size w3 wr) (fun i _ => ks.length - (intOf i).toNat)
  case atStart => exact ⟨0, Nat.zero_le _, rfl, Below.refl _ _⟩
  case round =>
    obtain ⟨k, hk, rfl, hb⟩ := hrel
    have hsz := hb.size
    have hd0 := cellk hb (p := ⟨w2.heap.size, 0, none⟩) (by show w2.heap.size < _; omega) hx3_0
    have hd1 := cellk hb (p := ⟨w2.heap.size, 1, none⟩) (by show w2.heap.size < _; omega) hx3_1
    by_cases hlt : k < ks.length
    · have hs : ks[k]? = some ks[k] := List.getElem?_eq_getElem hlt
      have hc := hcell3 k (.int .u64 ks[k]) (by rw [List.getElem?_map, hs]; rfl)
      have hdk := cellk hb (p := ⟨g3, k, none⟩) hg3' hc
      have hx1 := hks _ (List.getElem_mem hlt)
      generalize ks[k] = s at hc hx1 hs hdk
      have hin0 : (0 : Int) ≤ (k : Int) := by omega
      have hin1 : (k : Int) < (ks.length : Int) := by omega
      clear hcell3 hks hc hs
      go_wp2_with (fail)
      go_region_held3 (fun w' => w'.cell? ⟨w2.heap.size, 0, none⟩ = some (.int .u64 a) ∧ w'.cell? ⟨w2.heap.size, 1, none⟩ = some (.int .u64 b))
        (first | exact ⟨hx5_0, hx5_1⟩ | exact ⟨hx4_0, hx4_1⟩ | go_keep)
        (first | (go_at_call 12; refine (has_any _ _ _ _).mono ?_; rintro e w4 ⟨rfl, hb4⟩; have hz4 := hb4.size; (try simp at hz4); have hx4_0 : w4.cell? ⟨w2.heap.size, 0, none⟩ = some (.int .u64 a) := cellk hb4 (by first | (simp; done) | (simp; omega) | omega) (by first | assumption | (simp; done) | (simp; assumption) | (go_simp; done)); have hx4_1 : w4.cell? ⟨w2.heap.size, 1, none⟩ = some (.int .u64 b) := cellk hb4 (by first | (simp; done) | (simp; omega) | omega) (by first | assumption | (simp; done) | (simp; assumption) | (go_simp; done))) | (go_at_call 13; refine (in_any _ _ _ _).mono ?_; rintro e w5 ⟨rfl, hb5⟩; have hz5 := hb5.size; (try simp at hz5); have hx5_0 : w5.cell? ⟨w2.heap.size, 0, none⟩ = some (.int .u64 a) := cellk hb5 (by first | (simp; done) | (simp; omega) | omega) (by first | assumption | (simp; done) | (simp; assumption) | (go_simp; done)); have hx5_1 : w5.cell? ⟨w2.heap.size, 1, none⟩ = some (.int .u64 b) := cellk hb5 (by first | (simp; done) | (simp; omega) | omega) (by first | assumption | (simp; done) | (simp; assumption) | (go_simp; done))))
      go_wp2_with (fail)
      go_roundw
      case rel => exact ⟨k + 1, by omega, by go_num, by repeat (first | exact Below.refl _ _ | assumption | refine Below.drew ?_ | refine Below.setCell ?_ (by first | (simp; done) | omega | (simp; omega)) _ | refine Below.alloc ?_ (by first | (simp; done) | omega | (simp; omega)) _ | refine bdrewN ?_ _ | refine bstep ?_ (by assumption) (by first | (simp; done) | omega | (simp; omega)))⟩
      case measure => simp [intOf]; omega
    · have hge : ¬ (k : Int) < (ks.length : Int) := by omega
      go_wp2_with (fail)
      go_region_held3 (fun w' => w'.cell? ⟨w2.heap.size, 0, none⟩ = some (.int .u64 a) ∧ w'.cell? ⟨w2.heap.size, 1, none⟩ = some (.int .u64 b))
        (first | exact ⟨hx4_0, hx4_1⟩ | go_keep)
        (first | (go_at_call 14; refine (empty_any _ _ _).mono ?_; rintro e w4 ⟨rfl, hb4⟩; have hz4 := hb4.size; (try simp at hz4); have hx4_0 : w4.cell? ⟨w2.heap.size, 0, none⟩ = some (.int .u64 a) := cellk hb4 (by first | (simp; done) | (simp; omega) | omega) (by first | assumption | (simp; done) | (simp; assumption) | (go_simp; done)); have hx4_1 : w4.cell? ⟨w2.heap.size, 1, none⟩ = some (.int .u64 b) := cellk hb4 (by first | (simp; done) | (simp; omega) | omega) (by first | assumption | (simp; done) | (simp; assumption) | (go_simp; done))))
      go_wp2_with (fail)
      go_ret
      refine ⟨by simp, ?_⟩
      repeat (first | exact Below.refl _ _ | assumption | refine Below.drew ?_ | refine Below.setCell ?_ (by first | (simp; done) | omega | (simp; omega)) _ | refine Below.alloc ?_ (by first | (simp; done) | omega | (simp; omega)) _ | refine bdrewN ?_ _ | refine bstep ?_ (by assumption) (by first | (simp; done) | omega | (simp; omega)))
end Go.Proofs.YtendjifhdpeebaaDoor
