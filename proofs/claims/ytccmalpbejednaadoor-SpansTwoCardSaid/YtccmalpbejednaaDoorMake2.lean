/- selionlaw02.Make: a row of spans out of a row of S. Condition: no more than 1000. -/
import Derived.Test.YtccmalpbejednaaDoorSpanRow
namespace Go.Proofs.YtccmalpbejednaaDoor
open Go Go.Proofs Go.RowKit

/-- What S.Make makes of its three numbers. -/
def mkF (s : Int × Int × Int) : Int × Int := makeF s.1 s.2.1 s.2.2
set_option maxHeartbeats 2000000 in
set_option maxRecDepth 100000 in
theorem makeRow (A : Option Addr) (n c : Nat) (xs : List (Int × Int × Int)) (w : World) (hl : xs.length = n) (hn : n ≤ 1000)
    (hx : ∀ s ∈ xs, U64 s.1 ∧ U64 s.2.1 ∧ 0 ≤ s.2.2 ∧ s.2.2 < 256)
    (h : xs = [] ∨ ∃ g0 : Addr, A = some g0 ∧ g0.block < w.heap.size ∧ ∀ j s, xs[j]? = some s → w.cell? (g0.add (j * 3)) = some (.int .u64 s.1) ∧ w.cell? (g0.add (j * 3 + 1)) = some (.int .u64 s.2.1) ∧ w.cell? (g0.add (j * 3 + 2)) = some (.int .u8 s.2.2)) :
    Calls Tryd.prog 14 #[.slice A n c] w fun e w' => ∃ v', e = .returned v' ∧ w'.ownsRow w.heap.size 31 2 v' n (flatS (xs.map mkF)) ∧ Below w.heap.size w w' := by
  obtain ⟨i0, hi, hz0, hz1, hz2⟩ := info_parts info_span
  go_enter Tryd.func14, Tryd.ntmps14
  go_wp2_with (fail)
  go_loopw [3, 8] (fun v i wr => ∃ k : Nat, k ≤ n ∧ i = .int .i64 k ∧ wr.ownsRow w.heap.size 31 2 v k (flatS ((xs.take k).map mkF)) ∧ Below w.heap.size w wr) (fun _ i _ => n - (intOf i).toNat)
  case atStart => exact ⟨0, Nat.zero_le _, rfl, World.ownsRow_nil _ _ _ _, Below.refl _ _⟩
  case round =>
    obtain ⟨k, hk, rfl, hown, hb⟩ := hrel
    have hsz := hb.size
    by_cases hlt : k < n
    · rcases h with rfl | ⟨g0, rfl, hbl, hcells⟩
      · simp at hl; omega
      obtain ⟨s, hs⟩ : ∃ s, xs[k]? = some s := ⟨xs[k]'(by omega), List.getElem?_eq_getElem (by omega)⟩
      obtain ⟨d0, d1, d2⟩ := hcells k s hs
      replace d0 := cellk hb (p := g0.add (k * 3)) (by rw [block_of_add]; exact hbl) d0
      replace d1 := cellk hb (p := g0.add (k * 3 + 1)) (by rw [block_of_add]; exact hbl) d1
      replace d2 := cellk hb (p := g0.add (k * 3 + 2)) (by rw [block_of_add]; exact hbl) d2
      rw [← add_of_add] at d1 d2
      replace d1 : wr.cell? ⟨(g0.add (k * 3)).block, (g0.add (k * 3)).off + 1, none⟩ = some (.int .u64 s.2.1) := d1
      replace d2 : wr.cell? ⟨(g0.add (k * 3)).block, (g0.add (k * 3)).off + 2, none⟩ = some (.int .u8 s.2.2) := d2
      have hin0 : (0 : Int) ≤ (k : Int) := by omega
      have hin1 : (k : Int) < (n : Int) := by omega
      have hsm := hx s (List.mem_of_getElem? hs)
      have hk1 : (xs.take (k + 1)).map mkF = (xs.take k).map mkF ++ [mkF s] := by
        rw [List.take_succ_eq_append_getElem (by omega), List.map_append]
        rw [List.getElem?_eq_getElem (by omega)] at hs
        rw [Option.some.inj hs]
        rfl
      obtain ⟨A1, c1, rfl, hc1, _⟩ := SpanRow.of_owns hown
      have how := Lib.hid hown
      clear hcells hown hx hs
      go_wp2_with (first
        | (go_at_call 44; refine (make_any _ _ _ _ hsm.1.1 hsm.1.2 hsm.2.1.1 hsm.2.1.2 hsm.2.2.1 hsm.2.2.2).mono ?_; rintro e w4 ⟨rfl, hb4⟩; have hz4 := hb4.size)
        | (at_builtin; (refine wpList_append_own _ rfl (.tmp 12) (.tmp 15) 24 rfl w.heap.size 31 i0 (.agg #[.int .u64 0, .int .u64 0]) 2 16 Tryd.underlying24 hi hz0 hz1 hz2 rfl (by decide) _ k (flatS ((xs.take k).map mkF)) rfl ((owns_below (how.out.alloc _) hb4 (Nat.le_refl _)).alloc _) ⟨w4.heap.size, 0, none⟩ 1 1 [.int .u64 (mkF s).1, .int .u64 (mkF s).2] rfl rfl (World.news_of_block (cs := #[.int .u64 (mkF s).1, .int .u64 (mkF s).2]) (t := 31) (fr := (0, 0)) (heap_new_at (by simp))) (by simp [Value.oneCell']) (by unfold maxLen; omega) (by omega) (by simp at hz4 ⊢; omega) ?_; intro v5 w5 hown5 hgr5 _)))
      refine ⟨⟨k + 1, by omega, by go_num, ?_, ?_⟩, ?_⟩
      · rw [hk1, flatS_append]
        exact hown5
      · have hsz4 := hb4.size
        simp at hsz4
        exact (((hb.alloc hsz _).trans (hb4.mono (by simp; omega))).alloc (by omega) _).grown hgr5 (by simp; omega) (fun j hj => (how.out.lt j hj).1)
      · simp [intOf]; omega
    · obtain rfl : k = n := by omega
      rw [show xs.take k = xs from List.take_of_length_le (by omega)] at hown
      go_wp2_with (fail)
      go_ret
      exact ⟨_, rfl, hown, hb⟩
end Go.Proofs.YtccmalpbejednaaDoor
