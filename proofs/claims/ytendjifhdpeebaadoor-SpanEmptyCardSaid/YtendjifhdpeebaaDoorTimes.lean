/- The helper 'ends' of the first layer's statements: it answers some numbers, each of its kind, in memory of its own. -/
import Derived.Test.YtendjifhdpeebaaDoorBase
namespace Go.Proofs.YtendjifhdpeebaaDoor
open Go Go.Proofs Go.RowKit

theorem info_u64 : (Tryd.prog.info? 22).map (fun i => (i.zero, i.size, i.bytes)) = some (some (.int .u64 0), 1, 8) := by kernel_rfl

/-- Some numbers, each of its kind, in a slice of the call's own. -/
def Nums (w : World) (n : Nat) (e : Ending) (w' : World) : Prop :=
  ∃ (v : Value) (zs : List Int), e = .returned v ∧ w'.ownsRow w.heap.size 22 1 v zs.length (zs.map (Value.int .u64)) ∧ (∀ z ∈ zs, (0 : Int) ≤ z ∧ z < 18446744073709551616) ∧ zs.length = n ∧ Below w.heap.size w w'

set_option maxHeartbeats 1000000 in
theorem ends_any (g n c : Nat) (xs : List (Int × Int)) (w : World) (hg : g < w.heap.size) (hl : xs.length = n) (hn : n ≤ 100000)
    (h0 : ∀ j s, xs[j]? = some s → w.cell? ⟨g, j * 2, none⟩ = some (.int .u64 s.1) ∧ w.cell? ⟨g, j * 2 + 1, none⟩ = some (.int .u64 s.2))
    (hx : ∀ s ∈ xs, (0 : Int) ≤ s.1 ∧ s.1 < 18446744073709551616 ∧ (0 : Int) ≤ s.2 ∧ s.2 < 18446744073709551616) :
    Calls Tryd.prog 20 #[.slice (some ⟨g, 0, none⟩) n c] w (Nums w (2 * n)) := by
  obtain ⟨i0, hi, hz0, hz1, hz2⟩ := info_parts info_u64
  go_enter Tryd.func20, Tryd.ntmps20
  go_wp2
  go_loopw [3, 8] (fun v i wr => ∃ (k : Nat) (zs : List Int), k ≤ n ∧ i = .int .i64 k ∧ wr.ownsRow w.heap.size 22 1 v zs.length (zs.map (Value.int .u64)) ∧ (∀ z ∈ zs, (0 : Int) ≤ z ∧ z < 18446744073709551616) ∧ zs.length = 2 * k ∧ Below w.heap.size w wr) (fun _ i _ => n - (intOf i).toNat)
  case atStart => exact ⟨0, [], Nat.zero_le _, rfl, World.ownsRow_nil _ _ _ _, by simp, rfl, Below.refl _ _⟩
  case round =>
    obtain ⟨k, zs, hk, rfl, hown, hz, hlen, hb⟩ := hrel
    by_cases hlt : k < n
    · have hs : xs[k]? = some xs[k] := List.getElem?_eq_getElem (by omega)
      obtain ⟨hc0, hc1⟩ := h0 k _ hs
      have hx1 := hx _ (List.getElem_mem (by omega : k < xs.length))
      generalize xs[k] = s at hc0 hc1 hx1 hs
      have hd0 := cellk hb (p := ⟨g, k * 2, none⟩) hg hc0
      have hd1 := cellk hb (p := ⟨g, k * 2 + 1, none⟩) hg hc1
      have hin0 : (0 : Int) ≤ (k : Int) := by omega
      have hin1 : (k : Int) < (n : Int) := by omega
      clear h0 hx hc0 hc1 hs
      have hsz := hb.size
      go_wp2_with (at_builtin; (refine wpList_append_own _ rfl (.tmp 12) (.tmp 17) 29 rfl w.heap.size 22 i0 (.int .u64 0) 1 8 Tryd.underlying29 hi hz0 hz1 hz2 rfl (by decide) _ zs.length (zs.map (Value.int .u64)) rfl ((hown.alloc _).alloc _) ⟨wr.heap.size + 1, 0, none⟩ 2 2 [.int .u64 s.1, .int .u64 s.2] rfl rfl (World.news_of_block (cs := #[.int .u64 s.1, .int .u64 s.2]) (t := 22) (fr := (0, 0)) (heap_new_at (by simp))) (by simp [Value.oneCell']) (by unfold maxLen; omega) (by omega) (by simp; omega) ?_; intro v1 w1 hown1 hgr1 _))
      go_roundw
      case rel =>
        refine ⟨k + 1, zs ++ [s.1, s.2], by omega, by go_num, ?_, ?_, ?_, ?_⟩
        · simpa using hown1
        · intro z hzm
          rcases List.mem_append.1 hzm with h | h
          · exact hz z h
          · simp at h
            rcases h with rfl | rfl <;> omega
        · simp; omega
        · exact ((hb.alloc hsz _).alloc (by simp; omega) _).grown hgr1 (by simp; omega) (fun j hj => (hown.lt j hj).1)
      case measure => simp [intOf]; omega
    · go_wp2
      go_ret
      have hkn : k = n := by omega
      subst hkn
      exact ⟨_, zs, rfl, hown, hz, hlen, hb⟩

set_option maxHeartbeats 1000000 in
theorem times_any (t : Int) (g n c : Nat) (xs : List (Int × Int)) (w : World) (ht : 0 ≤ t ∧ t < 18446744073709551616) (hg : g < w.heap.size) (hl : xs.length = n) (hn : n ≤ 1000)
    (h0 : ∀ j s, xs[j]? = some s → w.cell? ⟨g, j * 2, none⟩ = some (.int .u64 s.1) ∧ w.cell? ⟨g, j * 2 + 1, none⟩ = some (.int .u64 s.2))
    (hx : ∀ s ∈ xs, (0 : Int) ≤ s.1 ∧ s.1 < 18446744073709551616 ∧ (0 : Int) ≤ s.2 ∧ s.2 < 18446744073709551616) :
    Calls Tryd.prog 11 #[.int .u64 t, .slice (some ⟨g, 0, none⟩) n c] w (Nums w (3 * (3 + 2 * n))) := by
  obtain ⟨i0, hi, hz0, hz1, hz2⟩ := info_parts info_u64
  have HE : ∀ w1, Below w.heap.size w w1 → Calls Tryd.prog 20 #[.slice (some ⟨g, 0, none⟩) n c] w1 (Nums w1 (2 * n)) := fun w1 hb =>
    ends_any g n c xs w1 (Nat.lt_of_lt_of_le hg hb.size) hl (by omega) (fun j s hj => ⟨cellk hb hg (h0 j s hj).1, cellk hb hg (h0 j s hj).2⟩) hx
  clear h0 hx
  go_enter Tryd.func11, Tryd.ntmps11
  go_wp2_with (first
    | (go_at_call 20; refine (HE _ (by repeat (first | exact Below.refl _ _ | assumption | refine Below.drew ?_ | refine Below.setCell ?_ (by first | (simp; done) | omega | (simp; omega)) _ | refine Below.alloc ?_ (by first | (simp; done) | omega | (simp; omega)) _ | refine bdrewN ?_ _ | refine bstep ?_ (by assumption) (by first | (simp; done) | omega | (simp; omega))))).mono ?_; rintro e w1 ⟨v1, zs, rfl, hown1, hzs, hlen, hb1⟩; obtain ⟨A1, c1, rfl, hc1⟩ := owns_form hown1; have hz1' := hb1.size; simp at hz1'; have HL := Lib.hid hlen; have hll : zs.length ≤ 2000 := (by omega); clear hlen)
    | (at_builtin
       (refine wpList_append_any _ rfl (.tmp 9) (.tmp 11) 29 rfl w.heap.size 22 i0 (.int .u64 0) 1 8 Tryd.underlying29 hi hz0 hz1 hz2 rfl (by decide) (.slice (some ⟨w.heap.size, 0, none⟩) 3 3) 3 [.int .u64 t, .int .u64 0, .int .u64 18446744073709551615] rfl (owns_new (n := 3) (o := #[.int .u64 t, .int .u64 0, .int .u64 18446744073709551615]) ((hb1.block _ (by simp)).trans (heap_new_at rfl)) (by unfold maxLen; omega) rfl (Nat.le_refl _)) _ A1 zs.length c1 (zs.map (Value.int .u64)) rfl (Reads.of_own hown1) (by simp [Value.oneCell']) (by unfold maxLen; omega) (by omega) (by omega) ?_; intro v2 w2 hown2 hgr2 hat2; obtain ⟨A2, c2, rfl, hc2⟩ := owns_form hown2; have hb2 : Below w.heap.size w w2 := (((Below.refl _ _).alloc (Nat.le_refl _) _).trans (hb1.mono (by simp))).grown hgr2 (by omega) (by simp [Value.ownBlock]))))
  have hown2' : w2.ownsRow w.heap.size 22 1 (.slice A2 (3 + zs.length) c2) (3 + zs.length) ((t :: 0 :: 18446744073709551615 :: zs).map (Value.int .u64)) := hown2
  have hys : ∀ y ∈ t :: 0 :: 18446744073709551615 :: zs, (0 : Int) ≤ y ∧ y < 18446744073709551616 := by
    intro y hy
    rcases List.mem_cons.1 hy with rfl | hy
    · exact ht
    rcases List.mem_cons.1 hy with rfl | hy
    · omega
    rcases List.mem_cons.1 hy with rfl | hy
    · omega
    exact hzs y hy
  have hyl : (t :: 0 :: 18446744073709551615 :: zs).length = 3 + zs.length := by simp; omega
  generalize t :: 0 :: 18446744073709551615 :: zs = ys at hown2' hys hyl
  obtain ⟨g2, rfl, hg2, hg2', hcell2⟩ := owns_at hown2' (by omega)
  clear hown2 hown1 hgr2 hat2 hb1 HE hzs hc1 hc2
  have HY := Lib.hid hyl
  have hyl1 : 3 + zs.length ≤ ys.length := by omega
  clear hyl
  go_loopw [5, 14] (fun v i wr => ∃ (k : Nat) (os : List Int), k ≤ 3 + zs.length ∧ i = .int .i64 k ∧ wr.ownsRow w2.heap.size 22 1 v os.length (os.map (Value.int .u64)) ∧ (∀ z ∈ os, (0 : Int) ≤ z ∧ z < 18446744073709551616) ∧ os.length = 3 * k ∧ Below w2.heap.size w2 wr) (fun _ i _ => 3 + zs.length - (intOf i).toNat)
  case atStart => exact ⟨0, [], Nat.zero_le _, rfl, World.ownsRow_nil _ _ _ _, by simp, rfl, Below.refl _ _⟩
  case round =>
    obtain ⟨k, os, hk, rfl, hown, hz, hlen, hb⟩ := hrel
    by_cases hlt : k < 3 + zs.length
    · have hs : ys[k]? = some ys[k] := List.getElem?_eq_getElem (by omega)
      have hc := hcell2 k (.int .u64 ys[k]) (by rw [List.getElem?_map, hs]; rfl)
      have hd0 := cellk hb (p := ⟨g2, k, none⟩) hg2' hc
      have hx1 := hys _ (List.getElem_mem (by omega : k < ys.length))
      generalize ys[k] = s at hc hx1 hs hd0
      have hin0 : (0 : Int) ≤ (k : Int) := by omega
      have hin1 : (k : Int) < ((3 + zs.length : Nat) : Int) := by omega
      clear hcell2 hys hc hs
      have hsz := hb.size
      obtain ⟨hx1a, hx1b⟩ := hx1
      go_wp2_with (at_builtin; (refine wpList_append_own _ rfl (.tmp 18) (.tmp 24) 29 rfl w2.heap.size 22 i0 (.int .u64 0) 1 8 Tryd.underlying29 hi hz0 hz1 hz2 rfl (by decide) _ os.length (os.map (Value.int .u64)) rfl (hown.alloc _) ⟨wr.heap.size, 0, none⟩ 3 3 _ rfl rfl (World.news_of_block (t := 22) (fr := (0, 0)) (heap_new_at (by simp))) (by simp [Value.oneCell']) (by unfold maxLen; omega) (by omega) (by simp; omega) ?_; intro v1 w1 hown1 hgr1 _))
      go_roundw
      case rel =>
        refine ⟨k + 1, os ++ [IntKind.u64.wrap (s - 1), s, IntKind.u64.wrap (s + 1)], by omega, by go_num, ?_, ?_, ?_, ?_⟩
        · simpa using hown1
        · intro z hzm
          rcases List.mem_append.1 hzm with h | h
          · exact hz z h
          · simp at h
            have a1 := u64_wrap_range (s - 1)
            have a2 := u64_wrap_range (s + 1)
            rcases h with rfl | rfl | rfl
            · exact a1
            · exact ⟨hx1a, hx1b⟩
            · exact a2
        · simp; omega
        · exact (hb.alloc hsz _).grown hgr1 (by simp; omega) (fun j hj => (hown.lt j hj).1)
      case measure => simp [intOf]; omega
    · go_wp2
      go_ret
      have hkn : k = 3 + zs.length := by omega
      subst hkn
      have HL' := HL.out
      exact ⟨_, os, rfl, owns_lower hown hb2.size, hz, by omega, hb2.trans (hb.mono hb2.size)⟩
end Go.Proofs.YtendjifhdpeebaaDoor
