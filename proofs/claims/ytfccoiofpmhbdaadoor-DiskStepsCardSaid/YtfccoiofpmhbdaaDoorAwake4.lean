/- selionlaw04.Awake: the fixed fact of layer 4 answers true. Condition: the package's variable 'none' holds what its text lays. -/
import Derived.Test.YtfccoiofpmhbdaaDoorDS
import Derived.Test.YtfccoiofpmhbdaaDoorBytes2
import Derived.Test.YtfccoiofpmhbdaaDoorAwake3
import Derived.Lib.SlBytesConst
namespace Go.Proofs.YtfccoiofpmhbdaaDoor
open Go Go.Proofs Go.RowKit

theorem reads_new {w : World} {g : Nat} {t : TypeId} (bs : List UInt8) {n : Nat} {fr : Nat × Nat} (hg : w.heap[g]? = some (.cells (bv bs).toArray t fr)) (hn : n = bs.length) : Reads w w.heap.size 1 (some ⟨g, 0, none⟩) n (bv bs) := by
  refine ⟨by rw [bv_length, hn]; omega, fun _ => ⟨_, rfl, lt_of_heap hg, fun j u hj => ?_⟩⟩
  rw [show (⟨g, 0, none⟩ : Addr).add j = ⟨g, j, none⟩ by unfold Addr.add; split <;> simp_all]
  rw [cell_of_row w g j _ _ _ hg]
  simpa using hj
set_option maxHeartbeats 1000000 in
set_option maxRecDepth 10000 in
theorem awake4_any (w : World) (hn : NoneLaid w) : Calls Tryd.prog 5 #[] w fun e w' => e = .returned (.bool true) ∧ Below w.heap.size w w' := by
  have kc := fun (w : World) (C : Array Value) (n c : Nat) => Lib.run_convert_bytes_const (P := Tryd.prog) w 30 5 C n c Tryd.underlying30 Tryd.underlying5
  go_enter Tryd.func5, Tryd.ntmps5
  go_wp2_with (fail)
  refine (awake3_any w hn).mono ?_
  rintro e w1 ⟨rfl, hb1⟩
  clear hn
  go_wp2_with (fail)
  refine (dsNew 9 w1 (by omega) (by omega)).mono ?_
  rintro e w2 ⟨C, a, pw, rfl, hd2, hb2⟩
  have HD2 := Lib.hid hd2
  clear hd2
  go_wp2_with (fail)
  have hb3 := (Below.refl w2.heap.size w2).alloc (Nat.le_refl _) (.cells #[.int .u8 49, .int .u8 50, .int .u8 51, .int .u8 52, .int .u8 53] 5 (5, 6))
  have hd3 := HD2.out.below hb3
  have hrd := reads_new [49, 50, 51, 52, 53] (w := w2.alloc (.cells #[.int .u8 49, .int .u8 50, .int .u8 51, .int .u8 52, .int .u8 53] 5 (5, 6))) (g := w2.heap.size) (t := 5) (n := 5) (by rw [show (bv [49, 50, 51, 52, 53]).toArray = #[.int .u8 49, .int .u8 50, .int .u8 51, .int .u8 52, .int .u8 53] from by simp [bv, byteV]]; exact heap_alloc_new _ _) rfl
  refine (dsAppend w1.heap.size _ C 0 a pw 0 (-1) 0 9 (fun _ => none) [97] [49, 50, 51, 52, 53] (some ⟨w2.heap.size, 0, none⟩) 5 5 _ hd3 (by omega) (.inl (by omega)) (by decide) (by omega) hrd (Nat.le_refl _) (fun g hg _ => by
    have hg : w2.heap.size = g := by simpa using hg
    have h1 := HD2.out.lt g
    constructor
    · intro h; have := h1 (.inl h); omega
    · intro h; have := h1 (.inr h); omega)).mono ?_
  rintro e w4 ⟨rfl, C4, hd4, hc4, hm4, hb4⟩
  have HD4 := Lib.hid hd4
  have hb24 := Lib.hid ((hb2.mono (Nat.le_refl _)).trans ((hb3.mono hb2.size).trans hb4))
  clear hd4 hm4 hb4 hb3 hd3 HD2 hc4 hrd
  go_wp2_with (fail)
  have hA := asksThree C4 (putF (fun _ => none) [97] (dataF (fun _ => none) [97] ++ [49, 50, 51, 52, 53], keptF (fun _ => none) [97])) w4
  have heg := hA.eg
  refine (dsCrash _ _ _ C4 _ _ a pw _ _ _ _ _ _ _ w4 HD4.out hA (fun h => h) (fun _ _ _ => by decide)).mono ?_
  rintro e w5 ⟨rfl, ⟨t', ht', hd5⟩, _, hm5⟩
  have hb5 : Below w1.heap.size w4 w5 := HD4.out.keeps (hm5.mono fun _ _ h => .inl (h.resolve_right id))
  have HD5 := Lib.hid hd5
  clear hd5 hm5 hA heg ht'
  have hF : crashF (putF (fun _ => none) [97] (dataF (fun _ => none) [97] ++ [49, 50, 51, 52, 53], keptF (fun _ => none) [97])) (fun _ _ => 3) [97] = some ([49, 50, 51], 3) := by decide
  go_wp2_with (fail)
  refine (dsRead _ C4 _ a pw t' _ _ _ _ [97] [49, 50, 51] 3 w5 HD5.out (by decide) hF).mono ?_
  rintro e w6 ⟨v, A, c, rfl, rfl, hrow, _, hb6⟩
  have hcv := convB A 3 c _ _ w6 hrow.reads
  have hcv' : (convert 30 9 (.slice A 3 c)).run Tryd.prog w6 = .ok (.string ⟨#[49, 50, 51]⟩) w6 := hcv
  have hd6 := HD5.out.below hb6
  have hk := dsKept _ C4 _ a pw t' _ _ _ _ [97] w6 hd6 (by decide)
  rw [keptF_of hF] at hk
  have HK := Lib.hid hk
  clear hcv hd6 hk hrow
  go_wp2_with (go_at_call 20; refine HK.out.mono ?_; rintro e w7 ⟨rfl, rfl⟩)
  go_ret
  refine ⟨by simp, ?_⟩
  have h1 : Below w1.heap.size w1 w4 := hb24.out
  have h2 : Below w1.heap.size w1 w7 := (h1.trans hb5).trans (hb6.mono ((h1.trans hb5).size))
  exact hb1.trans (h2.mono hb1.size)
end Go.Proofs.YtfccoiofpmhbdaaDoor
