/- SpanParts: the call answers true and leaves what was there as it was. Condition: the package's variable 'none' holds what its text lays. -/
import Derived.Test.YtendjifhdpeebaaDoorSpanLaws
import Derived.Test.YtendjifhdpeebaaDoorLaw1
import Derived.Test.YtendjifhdpeebaaDoorInv2
import Derived.Deep.QuietTactic
import Derived.BigQuiet
namespace Go.Proofs.YtendjifhdpeebaaDoor
open Go Go.Proofs Go.RowKit

theorem belowP_is (a b x : Int) (p : Int × Int) (w : World) (hn : NoneLaid w) (ht : x < 18446744073709551616) (hl : 0 ≤ a) (h : belowF a b x = p) :
    Calls Tryd.prog 16 #[.agg #[.int .u64 a, .int .u64 b], .int .u64 x] w fun e' w' => e' = .returned (.agg #[.int .u64 p.1, .int .u64 p.2]) ∧ Below w.heap.size w w' := by
  subst h
  exact below_any a b x w hn ht hl
theorem aboveP_is (a b x : Int) (p : Int × Int) (w : World) (hn : NoneLaid w) (ht : 0 ≤ x) (hh : b < 18446744073709551616) (h : aboveF a b x = p) :
    Calls Tryd.prog 15 #[.agg #[.int .u64 a, .int .u64 b], .int .u64 x] w fun e' w' => e' = .returned (.agg #[.int .u64 p.1, .int .u64 p.2]) ∧ Below w.heap.size w w' := by
  subst h
  exact above_any a b x w hn ht hh
theorem meetP_is (a b c d : Int) (p : Int × Int) (w : World) (hn : NoneLaid w) (h : meetF a b c d = p) :
    Calls Tryd.prog 19 #[.agg #[.int .u64 a, .int .u64 b], .agg #[.int .u64 c, .int .u64 d]] w fun e' w' => e' = .returned (.agg #[.int .u64 p.1, .int .u64 p.2]) ∧ Below w.heap.size w w' := by
  subst h
  exact meet_any a b c d w hn
/-- How many of the first k of three hold. -/
def cnt (P R E : Bool) (k : Nat) : Int := (if 0 < k ∧ P = true then 1 else 0) + (if 1 < k ∧ R = true then 1 else 0) + (if 2 < k ∧ E = true then 1 else 0)
theorem cnt_one (P R E : Bool) (k : Nat) (V : Bool) (hV : (if k = 0 then P else if k = 1 then R else E) = V) (hk : k < 3) : cnt P R E (k + 1) = if V = true then cnt P R E k + 1 else cnt P R E k := by
  subst hV
  obtain rfl | rfl | rfl : k = 0 ∨ k = 1 ∨ k = 2 := by omega
  all_goals cases P <;> cases R <;> cases E <;> rfl
theorem cnt_range (P R E : Bool) (k : Nat) : 0 ≤ cnt P R E k ∧ cnt P R E k ≤ 3 := by
  unfold cnt
  split <;> split <;> split <;> omega
theorem parts_law (a b x y : Int) (P R E X : Bool) (hP : inB (belowF a b x).1 (belowF a b x).2 y = P) (hR : inB (aboveF a b x).1 (aboveF a b x).2 y = R) (hE : inB (meetF a b x x).1 (meetF a b x x).2 y = E) (hX : inB a b y = X) :
    (X = false ∧ P = false ∧ R = false ∧ E = false) ∨ (X = true ∧ P = true ∧ R = false ∧ E = false) ∨ (X = true ∧ P = false ∧ R = true ∧ E = false) ∨ (X = true ∧ P = false ∧ R = false ∧ E = true) := by
  rw [belowF_in, hX] at hP
  rw [aboveF_in, hX] at hR
  rw [meetF_in, hX] at hE
  subst hP
  subst hR
  subst hE
  cases X with
  | false => exact .inl ⟨rfl, rfl, rfl, rfl⟩
  | true =>
    by_cases g1 : y < x <;> by_cases g2 : x < y <;> by_cases g3 : x ≤ y <;> by_cases g4 : y ≤ x <;> simp [inB, g1, g2, g3, g4] <;> omega
set_option maxHeartbeats 10000000 in
theorem spanParts_any (l1 m1 n1 t u : Int) (w : World) (hn : NoneLaid w) (h1 : U64 l1) (h2 : U64 m1) (h3 : 0 ≤ n1 ∧ n1 < 256) :
    Calls Tryd.prog 7 #[.agg #[.int .u64 l1, .int .u64 m1, .int .u8 n1], .int .u64 t, .int .u64 u] w fun e w' => e = .returned (.bool true) ∧ Below w.heap.size w w' := by
  go_enter Tryd.func7, Tryd.ntmps7
  go_wp2_with (first
    | (go_at_call 9; refine (awake_any _ (hn.next (by repeat (first | exact Below.refl _ _ | assumption | refine Below.drew ?_ | refine Below.setCell ?_ (by first | (simp; done) | omega | (simp; omega)) _ | refine Below.alloc ?_ (by first | (simp; done) | omega | (simp; omega)) _ | refine bdrewN ?_ _ | refine bstep ?_ (by assumption) (by first | (simp; done) | omega | (simp; omega)))))).mono ?_; rintro e w1 ⟨rfl, hb1⟩; have hz1 := hb1.size; (try simp at hz1); have hx1_0 : w1.cell? ⟨w.heap.size, 0, none⟩ = some (.int .u64 l1) := cellk hb1 (by first | (simp; done) | (simp; omega) | omega) (by first | assumption | (simp; done) | (simp; assumption) | (go_simp; done)); have hy1_0 : w1.frozen? ⟨w.heap.size, 0, none⟩ = false := frzk hb1 (by first | (simp; done) | (simp; omega) | omega) (by first | assumption | (simp; done) | (simp; assumption) | (go_simp; done)); have hx1_1 : w1.cell? ⟨w.heap.size, 1, none⟩ = some (.int .u64 m1) := cellk hb1 (by first | (simp; done) | (simp; omega) | omega) (by first | assumption | (simp; done) | (simp; assumption) | (go_simp; done)); have hy1_1 : w1.frozen? ⟨w.heap.size, 1, none⟩ = false := frzk hb1 (by first | (simp; done) | (simp; omega) | omega) (by first | assumption | (simp; done) | (simp; assumption) | (go_simp; done)); have hx1_2 : w1.cell? ⟨w.heap.size, 2, none⟩ = some (.int .u8 n1) := cellk hb1 (by first | (simp; done) | (simp; omega) | omega) (by first | assumption | (simp; done) | (simp; assumption) | (go_simp; done)); have hy1_2 : w1.frozen? ⟨w.heap.size, 2, none⟩ = false := frzk hb1 (by first | (simp; done) | (simp; omega) | omega) (by first | assumption | (simp; done) | (simp; assumption) | (go_simp; done)))
    | (go_at_call 10; refine (make_some _ _ _ _ h1.1 h1.2 h2.1 h2.2 h3.1 h3.2).mono ?_; rintro e w2 ⟨a, b, ⟨⟨ha1, ha2⟩, hb1', hb2'⟩, rfl, hb2⟩; have hz2 := hb2.size))
  have hB2 : Below w.heap.size w w2 := by repeat (first | exact Below.refl _ _ | assumption | refine Below.drew ?_ | refine Below.setCell ?_ (by first | (simp; done) | omega | (simp; omega)) _ | refine Below.alloc ?_ (by first | (simp; done) | omega | (simp; omega)) _ | refine bdrewN ?_ _ | refine bstep ?_ (by assumption) (by first | (simp; done) | omega | (simp; omega)))
  have hn2 := hn.next hB2
  obtain ⟨W, hW⟩ : ∃ W, W = w2.alloc (.cells #[.int .u64 a, .int .u64 b] 27) := ⟨_, rfl⟩
  have hd0 : W.cell? ⟨w2.heap.size, 0, none⟩ = some (.int .u64 a) := by rw [hW]; simp
  have hd1 : W.cell? ⟨w2.heap.size, 1, none⟩ = some (.int .u64 b) := by rw [hW]; simp
  have hlW : w2.heap.size < W.heap.size := by rw [hW]; simp
  have hNW : NoneLaid W := by rw [hW]; exact hn2.alloc _
  have hBW : Below w.heap.size w W := by rw [hW]; exact hB2.alloc hB2.size _
  rw [← hW]
  clear hb1 hb2 hx1_0 hx1_1 hx1_2 hy1_0 hy1_1 hy1_2 hn hn2 hB2 hz1 hz2 hW h1 h2 h3
  go_cut [1, 2] (fun s1 s2 wx => ∃ x y : Int, s1 = .int .u64 x ∧ s2 = .int .u64 y ∧ U64 x ∧ U64 y ∧ Below W.heap.size W wx)
  case first =>
    go_quiet (fail)
    go_wp2_with (fail)
    go_meet
    refine ⟨_, _, rfl, rfl, u64_wrap_range _, u64_wrap_range _, ?_⟩
    repeat (first | exact Below.refl _ _ | assumption | refine Below.drew ?_ | refine Below.setCell ?_ (by first | (simp; done) | omega | (simp; omega)) _ | refine Below.alloc ?_ (by first | (simp; done) | omega | (simp; omega)) _ | refine bdrewN ?_ _ | refine bstep ?_ (by assumption) (by first | (simp; done) | omega | (simp; omega)))
  case rest =>
    obtain ⟨x, y, rfl, rfl, ⟨hx1, hx2⟩, hy, hbx⟩ := hcut
    obtain ⟨⟨p, q⟩, hpq⟩ : ∃ z, belowF a b x = z := ⟨_, rfl⟩
    obtain ⟨⟨r, s⟩, hrs⟩ : ∃ z, aboveF a b x = z := ⟨_, rfl⟩
    obtain ⟨⟨e, f⟩, hef⟩ : ∃ z, meetF a b x x = z := ⟨_, rfl⟩
    have hlaw := parts_law a b x y
    rw [hpq, hrs, hef] at hlaw
    have c0 := cellk hbx hlW hd0
    have c1 := cellk hbx hlW hd1
    have hNx := hNW.next hbx
    have hBx : Below w.heap.size w wc := hBW.trans (hbx.mono hBW.size)
    have hlx : w2.heap.size < wc.heap.size := by have := hbx.size; omega
    have HP := Lib.hid hpq
    have HR := Lib.hid hrs
    have HE := Lib.hid hef
    have HL := Lib.hid hlaw
    clear hpq hrs hef hlaw hd0 hd1 hlW hNW hBW hbx
    go_wp2_with (fail)
    go_cut [36, 37, 38] (fun s36 s37 s38 wx => ∃ g : Nat, s36 = .slice (some ⟨g, 0, none⟩) 3 3 ∧ s37 = .int .i64 3 ∧ s38 = .int .i64 0 ∧ Below wc.heap.size wc wx ∧ g < wx.heap.size ∧
      wx.cell? ⟨g, 0, none⟩ = some (.int .u64 p) ∧ wx.cell? ⟨g, 1, none⟩ = some (.int .u64 q) ∧ wx.cell? ⟨g, 2, none⟩ = some (.int .u64 r) ∧ wx.cell? ⟨g, 3, none⟩ = some (.int .u64 s) ∧ wx.cell? ⟨g, 4, none⟩ = some (.int .u64 e) ∧ wx.cell? ⟨g, 5, none⟩ = some (.int .u64 f))
    case first =>
      refine wp_region_steps 14 (fun sq => match sq with | 25 => .agg #[.int .u64 a, .int .u64 b] | 26 => .int .u64 x | 27 => .agg #[.int .u64 p, .int .u64 q] | 28 => .agg #[.int .u64 a, .int .u64 b] | 29 => .int .u64 x | 30 => .agg #[.int .u64 r, .int .u64 s] | 31 => .agg #[.int .u64 a, .int .u64 b] | 32 => .int .u64 x | 33 => .int .u64 x | 34 => .agg #[.int .u64 x, .int .u64 x] | 35 => .agg #[.int .u64 e, .int .u64 f] | 37 => .int .i64 3 | 38 => .int .i64 0 | _ => undef) (fun sq => match sq with | 36 => some (#[.int .u64 p, .int .u64 q, .int .u64 r, .int .u64 s, .int .u64 e, .int .u64 f], 27, some 3) | _ => none) (by kernel_rfl) (by kernel_rfl) (by kernel_rfl) (by kernel_rfl) rfl (steps_succ (steps_succ (steps_succ (steps_succ (steps_succ (steps_succ (steps_succ (steps_succ (steps_succ (steps_succ (steps_succ (steps_succ (steps_succ (steps_succ steps_zero ?_) ?_) ?_) ?_) ?_) ?_) ?_) ?_) ?_) ?_) ?_) ?_) ?_) ?_) ?_
      · intro o aa ww ho hG hold hnew K hK
        obtain rfl := Option.some.inj ho
        have s7 : aa.tmps[7]? = some (.pointer (some ⟨w2.heap.size, 0, none⟩)) := hold 7 rfl
        clear hold hnew
        have k0 := cellk hG hlx c0; have k1 := cellk hG hlx c1
        go_simp
        refine hK _ _ (Below.refl _ _) (fun sq hsq => ?_)
        obtain rfl := Option.some.inj hsq
        exact ⟨(show (_ : Value) = (.agg #[.int .u64 a, .int .u64 b]) from (by first | rfl | (simp [*]; done))), fun h => absurd rfl h⟩
      · intro o aa ww ho hG hold hnew K hK
        obtain rfl := Option.some.inj ho
        have s1 : aa.tmps[1]? = some (.int .u64 x) := hold 1 rfl
        clear hold hnew
        go_simp
        refine hK _ _ (Below.refl _ _) (fun sq hsq => ?_)
        obtain rfl := Option.some.inj hsq
        exact ⟨(show (_ : Value) = (.int .u64 x) from (by first | rfl | (simp [*]; done))), fun h => absurd rfl h⟩
      · intro o aa ww ho hG hold hnew K hK
        obtain rfl := Option.some.inj ho
        obtain ⟨x25, s25, e25⟩ := hnew 25 (by kernel_rfl)
        obtain rfl : x25 = (.agg #[.int .u64 a, .int .u64 b]) := e25
        obtain ⟨x26, s26, e26⟩ := hnew 26 (by kernel_rfl)
        obtain rfl : x26 = (.int .u64 x) := e26
        clear hold hnew
        go_simp
        first | (refine (belowP_is _ _ _ _ _ (hNx.below hG hNx.lt) hx2 ha1 HP.out).mono ?_; rintro e' w4 ⟨rfl, hbb⟩; refine hK _ _ hbb (fun sq hsq => ?_)) | refine hK _ _ (Below.refl _ _) (fun sq hsq => ?_)
        obtain rfl := Option.some.inj hsq
        exact ⟨(show (_ : Value) = (.agg #[.int .u64 p, .int .u64 q]) from (by first | rfl | (simp [*]; done))), fun h => absurd rfl h⟩
      · intro o aa ww ho hG hold hnew K hK
        obtain rfl := Option.some.inj ho
        have s7 : aa.tmps[7]? = some (.pointer (some ⟨w2.heap.size, 0, none⟩)) := hold 7 rfl
        clear hold hnew
        have k0 := cellk hG hlx c0; have k1 := cellk hG hlx c1
        go_simp
        refine hK _ _ (Below.refl _ _) (fun sq hsq => ?_)
        obtain rfl := Option.some.inj hsq
        exact ⟨(show (_ : Value) = (.agg #[.int .u64 a, .int .u64 b]) from (by first | rfl | (simp [*]; done))), fun h => absurd rfl h⟩
      · intro o aa ww ho hG hold hnew K hK
        obtain rfl := Option.some.inj ho
        have s1 : aa.tmps[1]? = some (.int .u64 x) := hold 1 rfl
        clear hold hnew
        go_simp
        refine hK _ _ (Below.refl _ _) (fun sq hsq => ?_)
        obtain rfl := Option.some.inj hsq
        exact ⟨(show (_ : Value) = (.int .u64 x) from (by first | rfl | (simp [*]; done))), fun h => absurd rfl h⟩
      · intro o aa ww ho hG hold hnew K hK
        obtain rfl := Option.some.inj ho
        obtain ⟨x28, s28, e28⟩ := hnew 28 (by kernel_rfl)
        obtain rfl : x28 = (.agg #[.int .u64 a, .int .u64 b]) := e28
        obtain ⟨x29, s29, e29⟩ := hnew 29 (by kernel_rfl)
        obtain rfl : x29 = (.int .u64 x) := e29
        clear hold hnew
        go_simp
        first | (refine (aboveP_is _ _ _ _ _ (hNx.below hG hNx.lt) hx1 hb2' HR.out).mono ?_; rintro e' w4 ⟨rfl, hbb⟩; refine hK _ _ hbb (fun sq hsq => ?_)) | refine hK _ _ (Below.refl _ _) (fun sq hsq => ?_)
        obtain rfl := Option.some.inj hsq
        exact ⟨(show (_ : Value) = (.agg #[.int .u64 r, .int .u64 s]) from (by first | rfl | (simp [*]; done))), fun h => absurd rfl h⟩
      · intro o aa ww ho hG hold hnew K hK
        obtain rfl := Option.some.inj ho
        have s7 : aa.tmps[7]? = some (.pointer (some ⟨w2.heap.size, 0, none⟩)) := hold 7 rfl
        clear hold hnew
        have k0 := cellk hG hlx c0; have k1 := cellk hG hlx c1
        go_simp
        refine hK _ _ (Below.refl _ _) (fun sq hsq => ?_)
        obtain rfl := Option.some.inj hsq
        exact ⟨(show (_ : Value) = (.agg #[.int .u64 a, .int .u64 b]) from (by first | rfl | (simp [*]; done))), fun h => absurd rfl h⟩
      · intro o aa ww ho hG hold hnew K hK
        obtain rfl := Option.some.inj ho
        have s1 : aa.tmps[1]? = some (.int .u64 x) := hold 1 rfl
        clear hold hnew
        go_simp
        refine hK _ _ (Below.refl _ _) (fun sq hsq => ?_)
        obtain rfl := Option.some.inj hsq
        exact ⟨(show (_ : Value) = (.int .u64 x) from (by first | rfl | (simp [*]; done))), fun h => absurd rfl h⟩
      · intro o aa ww ho hG hold hnew K hK
        obtain rfl := Option.some.inj ho
        have s1 : aa.tmps[1]? = some (.int .u64 x) := hold 1 rfl
        clear hold hnew
        go_simp
        refine hK _ _ (Below.refl _ _) (fun sq hsq => ?_)
        obtain rfl := Option.some.inj hsq
        exact ⟨(show (_ : Value) = (.int .u64 x) from (by first | rfl | (simp [*]; done))), fun h => absurd rfl h⟩
      · intro o aa ww ho hG hold hnew K hK
        obtain rfl := Option.some.inj ho
        obtain ⟨x32, s32, e32⟩ := hnew 32 (by kernel_rfl)
        obtain rfl : x32 = (.int .u64 x) := e32
        obtain ⟨x33, s33, e33⟩ := hnew 33 (by kernel_rfl)
        obtain rfl : x33 = (.int .u64 x) := e33
        clear hold hnew
        go_simp
        refine hK _ _ (Below.refl _ _) (fun sq hsq => ?_)
        obtain rfl := Option.some.inj hsq
        exact ⟨(show (_ : Value) = (.agg #[.int .u64 x, .int .u64 x]) from (by first | rfl | (simp [*]; done))), fun h => absurd rfl h⟩
      · intro o aa ww ho hG hold hnew K hK
        obtain rfl := Option.some.inj ho
        obtain ⟨x31, s31, e31⟩ := hnew 31 (by kernel_rfl)
        obtain rfl : x31 = (.agg #[.int .u64 a, .int .u64 b]) := e31
        obtain ⟨x34, s34, e34⟩ := hnew 34 (by kernel_rfl)
        obtain rfl : x34 = (.agg #[.int .u64 x, .int .u64 x]) := e34
        clear hold hnew
        go_simp
        first | (refine (meetP_is _ _ _ _ _ _ (hNx.below hG hNx.lt) HE.out).mono ?_; rintro e' w4 ⟨rfl, hbb⟩; refine hK _ _ hbb (fun sq hsq => ?_)) | refine hK _ _ (Below.refl _ _) (fun sq hsq => ?_)
        obtain rfl := Option.some.inj hsq
        exact ⟨(show (_ : Value) = (.agg #[.int .u64 e, .int .u64 f]) from (by first | rfl | (simp [*]; done))), fun h => absurd rfl h⟩
      · intro o aa ww ho hG hold hnew K hK
        obtain rfl := Option.some.inj ho
        obtain ⟨x27, s27, e27⟩ := hnew 27 (by kernel_rfl)
        obtain rfl : x27 = (.agg #[.int .u64 p, .int .u64 q]) := e27
        obtain ⟨x30, s30, e30⟩ := hnew 30 (by kernel_rfl)
        obtain rfl : x30 = (.agg #[.int .u64 r, .int .u64 s]) := e30
        obtain ⟨x35, s35, e35⟩ := hnew 35 (by kernel_rfl)
        obtain rfl : x35 = (.agg #[.int .u64 e, .int .u64 f]) := e35
        clear hold hnew
        go_simp
        refine hK _ _ ((Below.refl _ _).alloc (Nat.le_refl _) _) (fun sq hsq => ?_)
        obtain rfl := Option.some.inj hsq
        exact ⟨⟨_, rfl, hG.size, heap_new_at rfl⟩, fun _ g hg => by (first | (obtain rfl := Option.some.inj hg; exact Nat.le_refl _) | (simp [blkOf] at hg; omega))⟩
      · intro o aa ww ho hG hold hnew K hK
        obtain rfl := Option.some.inj ho
        obtain ⟨x36, s36, e36⟩ := hnew 36 (by kernel_rfl)
        obtain ⟨gd36, rfl, hgd36, hkd36⟩ : ∃ g, x36 = .slice (some ⟨g, 0, none⟩) 3 3 ∧ _ ≤ g ∧ ww.heap[g]? = some (.cells (#[.int .u64 p, .int .u64 q, .int .u64 r, .int .u64 s, .int .u64 e, .int .u64 f]) (27) (0, 0)) := e36
        clear hold hnew
        go_simp
        refine hK _ _ (Below.refl _ _) (fun sq hsq => ?_)
        obtain rfl := Option.some.inj hsq
        exact ⟨(show (_ : Value) = (.int .i64 3) from (by first | rfl | (simp [*]; done))), fun h => absurd rfl h⟩
      · intro o aa ww ho hG hold hnew K hK
        obtain rfl := Option.some.inj ho
        clear hold hnew
        go_simp
        refine hK _ _ (Below.refl _ _) (fun sq hsq => ?_)
        obtain rfl := Option.some.inj hsq
        exact ⟨(show (_ : Value) = (.int .i64 0) from (by first | rfl | (simp [*]; done))), fun h => absurd rfl h⟩
      · intro U ww hbr hU hI
        have u25 : U 25 = (.agg #[.int .u64 a, .int .u64 b]) := hU 25 rfl
        have u26 : U 26 = (.int .u64 x) := hU 26 rfl
        have u27 : U 27 = (.agg #[.int .u64 p, .int .u64 q]) := hU 27 rfl
        have u28 : U 28 = (.agg #[.int .u64 a, .int .u64 b]) := hU 28 rfl
        have u29 : U 29 = (.int .u64 x) := hU 29 rfl
        have u30 : U 30 = (.agg #[.int .u64 r, .int .u64 s]) := hU 30 rfl
        have u31 : U 31 = (.agg #[.int .u64 a, .int .u64 b]) := hU 31 rfl
        have u32 : U 32 = (.int .u64 x) := hU 32 rfl
        have u33 : U 33 = (.int .u64 x) := hU 33 rfl
        have u34 : U 34 = (.agg #[.int .u64 x, .int .u64 x]) := hU 34 rfl
        have u35 : U 35 = (.agg #[.int .u64 e, .int .u64 f]) := hU 35 rfl
        have u37 : U 37 = (.int .i64 3) := hU 37 rfl
        have u38 : U 38 = (.int .i64 0) := hU 38 rfl
        obtain ⟨g36, u36, hg36, hk36⟩ : ∃ g, U 36 = .slice (some ⟨g, 0, none⟩) 3 3 ∧ _ ≤ g ∧ ww.heap[g]? = some (.cells (#[.int .u64 p, .int .u64 q, .int .u64 r, .int .u64 s, .int .u64 e, .int .u64 f]) (27) (0, 0)) := hU 36 rfl
        have hi36_0 : ww.cell? ⟨g36, 0, none⟩ = some (.int .u64 p) := cellH hk36 rfl
        have hj36_0 := frzH (i := 0) hk36
        have hi36_1 : ww.cell? ⟨g36, 1, none⟩ = some (.int .u64 q) := cellH hk36 rfl
        have hj36_1 := frzH (i := 1) hk36
        have hi36_2 : ww.cell? ⟨g36, 2, none⟩ = some (.int .u64 r) := cellH hk36 rfl
        have hj36_2 := frzH (i := 2) hk36
        have hi36_3 : ww.cell? ⟨g36, 3, none⟩ = some (.int .u64 s) := cellH hk36 rfl
        have hj36_3 := frzH (i := 3) hk36
        have hi36_4 : ww.cell? ⟨g36, 4, none⟩ = some (.int .u64 e) := cellH hk36 rfl
        have hj36_4 := frzH (i := 4) hk36
        have hi36_5 : ww.cell? ⟨g36, 5, none⟩ = some (.int .u64 f) := cellH hk36 rfl
        have hj36_5 := frzH (i := 5) hk36
        clear hU hI
        simp only [setAll, dsts, List.take_succ_cons, List.take_zero, List.filterMap_cons, List.filterMap_nil, List.drop_succ_cons, List.drop_zero, List.setIfInBounds_toArray, List.set_cons_succ, List.set_cons_zero, u25, u26, u27, u28, u29, u30, u31, u32, u33, u34, u35, u37, u38, u36]
        clear u25 u26 u27 u28 u29 u30 u31 u32 u33 u34 u35 u37 u38 u36
        go_wp2_with (fail)
        go_meet
        exact ⟨g36, rfl, rfl, rfl, hbr, World.block_lt_of_cell? _ _ hi36_0, hi36_0, hi36_1, hi36_2, hi36_3, hi36_4, hi36_5⟩
    case rest =>
      obtain ⟨g, rfl, rfl, rfl, hbw, hgl, v0, v1, v2, v3, v4, v5⟩ := hcut
      have k0 := cellk hbw hlx c0
      have k1 := cellk hbw hlx c1
      have hBz : Below w.heap.size w wc := hBx.trans (hbw.mono hBx.size)
      have hlz : w2.heap.size < wc.heap.size := by have := hbw.size; omega
      clear hbw c0 c1 hNx hBx hlx HP HR HE
      obtain ⟨X, hX⟩ : ∃ X, inB a b y = X := ⟨_, rfl⟩
      obtain ⟨P, hP⟩ : ∃ Y, inB p q y = Y := ⟨_, rfl⟩
      obtain ⟨R, hR⟩ : ∃ Y, inB r s y = Y := ⟨_, rfl⟩
      obtain ⟨E, hE⟩ : ∃ Y, inB e f y = Y := ⟨_, rfl⟩
      have hlaw := HL.out P R E X hP hR hE hX
      have HX := Lib.hid hX
      have HP := Lib.hid hP
      have HR := Lib.hid hR
      have HE := Lib.hid hE
      have HW := Lib.hid hlaw
      clear hX hP hR hE HL hlaw
      go_wp2_with (fail)
      go_loopw [8, 38] (fun n i wr => ∃ k : Nat, k ≤ 3 ∧ i = .int .i64 k ∧ n = .int .i64 (cnt P R E k) ∧ Below wc.heap.size wc wr) (fun _ i _ => 3 - (intOf i).toNat)
      case atStart => exact ⟨0, by omega, rfl, by simp [cnt], Below.refl _ _⟩
      case round =>
        obtain ⟨k, hk, rfl, rfl, hb⟩ := hrel
        have hsz := hb.size
        have a0 := cellk hb (p := ⟨w2.heap.size, 0, none⟩) hlz k0
        have a1 := cellk hb (p := ⟨w2.heap.size, 1, none⟩) hlz k1
        have b0 := cellk hb (p := ⟨g, 0, none⟩) hgl v0
        have b1 := cellk hb (p := ⟨g, 1, none⟩) hgl v1
        have b2 := cellk hb (p := ⟨g, 2, none⟩) hgl v2
        have b3 := cellk hb (p := ⟨g, 3, none⟩) hgl v3
        have b4 := cellk hb (p := ⟨g, 4, none⟩) hgl v4
        have b5 := cellk hb (p := ⟨g, 5, none⟩) hgl v5
        clear k0 k1 v0 v1 v2 v3 v4 v5
        have hlaw := HW.out
        clear HW
        have hlx : w2.heap.size < wr.heap.size := by omega
        obtain rfl | rfl | rfl | rfl : k = 0 ∨ k = 1 ∨ k = 2 ∨ k = 3 := by omega
        · obtain hV | hV : P = true ∨ P = false := (by cases P <;> simp)
          · have h1 := cnt_one P R E 0 true (by simpa using hV) (by omega)
            clear hlaw
            obtain ⟨n, hn⟩ : ∃ n, cnt P R E 0 = n := ⟨_, rfl⟩
            have hn3 := cnt_range P R E 0
            rw [hn] at h1 hn3 ⊢
            obtain ⟨hn1, hn2⟩ := hn3
            have hH := HP.out
            rw [hV] at hH
            simp only [if_true, if_false, Bool.false_eq_true] at h1
            go_wp2_with (first
              | (go_at_call 12; refine (has_is _ _ _ _ hH _).mono ?_; rintro e' w4 ⟨rfl, hb4⟩; have hz4 := hb4.size; simp at hz4; have hb4' : Below wr.heap.size wr w4 := (by repeat (first | exact Below.refl _ _ | assumption | refine Below.drew ?_ | refine Below.setCell ?_ (by first | (simp; done) | omega | (simp; omega)) _ | refine Below.alloc ?_ (by first | (simp; done) | omega | (simp; omega)) _ | refine bdrewN ?_ _ | refine bstep ?_ (by assumption) (by first | (simp; done) | omega | (simp; omega))))))
            go_roundw
            case rel => exact ⟨0 + 1, by omega, by go_num, by rw [h1], by repeat (first | exact Below.refl _ _ | assumption | refine Below.drew ?_ | refine Below.setCell ?_ (by first | (simp; done) | omega | (simp; omega)) _ | refine Below.alloc ?_ (by first | (simp; done) | omega | (simp; omega)) _ | refine bdrewN ?_ _ | refine bstep ?_ (by assumption) (by first | (simp; done) | omega | (simp; omega)))⟩
            case measure => simp [intOf]
          · have h1 := cnt_one P R E 0 false (by simpa using hV) (by omega)
            clear hlaw
            obtain ⟨n, hn⟩ : ∃ n, cnt P R E 0 = n := ⟨_, rfl⟩
            have hn3 := cnt_range P R E 0
            rw [hn] at h1 hn3 ⊢
            obtain ⟨hn1, hn2⟩ := hn3
            have hH := HP.out
            rw [hV] at hH
            simp only [if_true, if_false, Bool.false_eq_true] at h1
            go_wp2_with (first
              | (go_at_call 12; refine (has_is _ _ _ _ hH _).mono ?_; rintro e' w4 ⟨rfl, hb4⟩; have hz4 := hb4.size; simp at hz4; have hb4' : Below wr.heap.size wr w4 := (by repeat (first | exact Below.refl _ _ | assumption | refine Below.drew ?_ | refine Below.setCell ?_ (by first | (simp; done) | omega | (simp; omega)) _ | refine Below.alloc ?_ (by first | (simp; done) | omega | (simp; omega)) _ | refine bdrewN ?_ _ | refine bstep ?_ (by assumption) (by first | (simp; done) | omega | (simp; omega))))))
            go_roundw
            case rel => exact ⟨0 + 1, by omega, by go_num, by rw [h1], by repeat (first | exact Below.refl _ _ | assumption | refine Below.drew ?_ | refine Below.setCell ?_ (by first | (simp; done) | omega | (simp; omega)) _ | refine Below.alloc ?_ (by first | (simp; done) | omega | (simp; omega)) _ | refine bdrewN ?_ _ | refine bstep ?_ (by assumption) (by first | (simp; done) | omega | (simp; omega)))⟩
            case measure => simp [intOf]
        · obtain hV | hV : R = true ∨ R = false := (by cases R <;> simp)
          · have h1 := cnt_one P R E 1 true (by simpa using hV) (by omega)
            clear hlaw
            obtain ⟨n, hn⟩ : ∃ n, cnt P R E 1 = n := ⟨_, rfl⟩
            have hn3 := cnt_range P R E 1
            rw [hn] at h1 hn3 ⊢
            obtain ⟨hn1, hn2⟩ := hn3
            have hH := HR.out
            rw [hV] at hH
            simp only [if_true, if_false, Bool.false_eq_true] at h1
            go_wp2_with (first
              | (go_at_call 12; refine (has_is _ _ _ _ hH _).mono ?_; rintro e' w4 ⟨rfl, hb4⟩; have hz4 := hb4.size; simp at hz4; have hb4' : Below wr.heap.size wr w4 := (by repeat (first | exact Below.refl _ _ | assumption | refine Below.drew ?_ | refine Below.setCell ?_ (by first | (simp; done) | omega | (simp; omega)) _ | refine Below.alloc ?_ (by first | (simp; done) | omega | (simp; omega)) _ | refine bdrewN ?_ _ | refine bstep ?_ (by assumption) (by first | (simp; done) | omega | (simp; omega))))))
            go_roundw
            case rel => exact ⟨1 + 1, by omega, by go_num, by rw [h1], by repeat (first | exact Below.refl _ _ | assumption | refine Below.drew ?_ | refine Below.setCell ?_ (by first | (simp; done) | omega | (simp; omega)) _ | refine Below.alloc ?_ (by first | (simp; done) | omega | (simp; omega)) _ | refine bdrewN ?_ _ | refine bstep ?_ (by assumption) (by first | (simp; done) | omega | (simp; omega)))⟩
            case measure => simp [intOf]
          · have h1 := cnt_one P R E 1 false (by simpa using hV) (by omega)
            clear hlaw
            obtain ⟨n, hn⟩ : ∃ n, cnt P R E 1 = n := ⟨_, rfl⟩
            have hn3 := cnt_range P R E 1
            rw [hn] at h1 hn3 ⊢
            obtain ⟨hn1, hn2⟩ := hn3
            have hH := HR.out
            rw [hV] at hH
            simp only [if_true, if_false, Bool.false_eq_true] at h1
            go_wp2_with (first
              | (go_at_call 12; refine (has_is _ _ _ _ hH _).mono ?_; rintro e' w4 ⟨rfl, hb4⟩; have hz4 := hb4.size; simp at hz4; have hb4' : Below wr.heap.size wr w4 := (by repeat (first | exact Below.refl _ _ | assumption | refine Below.drew ?_ | refine Below.setCell ?_ (by first | (simp; done) | omega | (simp; omega)) _ | refine Below.alloc ?_ (by first | (simp; done) | omega | (simp; omega)) _ | refine bdrewN ?_ _ | refine bstep ?_ (by assumption) (by first | (simp; done) | omega | (simp; omega))))))
            go_roundw
            case rel => exact ⟨1 + 1, by omega, by go_num, by rw [h1], by repeat (first | exact Below.refl _ _ | assumption | refine Below.drew ?_ | refine Below.setCell ?_ (by first | (simp; done) | omega | (simp; omega)) _ | refine Below.alloc ?_ (by first | (simp; done) | omega | (simp; omega)) _ | refine bdrewN ?_ _ | refine bstep ?_ (by assumption) (by first | (simp; done) | omega | (simp; omega)))⟩
            case measure => simp [intOf]
        · obtain hV | hV : E = true ∨ E = false := (by cases E <;> simp)
          · have h1 := cnt_one P R E 2 true (by simpa using hV) (by omega)
            clear hlaw
            obtain ⟨n, hn⟩ : ∃ n, cnt P R E 2 = n := ⟨_, rfl⟩
            have hn3 := cnt_range P R E 2
            rw [hn] at h1 hn3 ⊢
            obtain ⟨hn1, hn2⟩ := hn3
            have hH := HE.out
            rw [hV] at hH
            simp only [if_true, if_false, Bool.false_eq_true] at h1
            go_wp2_with (first
              | (go_at_call 12; refine (has_is _ _ _ _ hH _).mono ?_; rintro e' w4 ⟨rfl, hb4⟩; have hz4 := hb4.size; simp at hz4; have hb4' : Below wr.heap.size wr w4 := (by repeat (first | exact Below.refl _ _ | assumption | refine Below.drew ?_ | refine Below.setCell ?_ (by first | (simp; done) | omega | (simp; omega)) _ | refine Below.alloc ?_ (by first | (simp; done) | omega | (simp; omega)) _ | refine bdrewN ?_ _ | refine bstep ?_ (by assumption) (by first | (simp; done) | omega | (simp; omega))))))
            go_roundw
            case rel => exact ⟨2 + 1, by omega, by go_num, by rw [h1], by repeat (first | exact Below.refl _ _ | assumption | refine Below.drew ?_ | refine Below.setCell ?_ (by first | (simp; done) | omega | (simp; omega)) _ | refine Below.alloc ?_ (by first | (simp; done) | omega | (simp; omega)) _ | refine bdrewN ?_ _ | refine bstep ?_ (by assumption) (by first | (simp; done) | omega | (simp; omega)))⟩
            case measure => simp [intOf]
          · have h1 := cnt_one P R E 2 false (by simpa using hV) (by omega)
            clear hlaw
            obtain ⟨n, hn⟩ : ∃ n, cnt P R E 2 = n := ⟨_, rfl⟩
            have hn3 := cnt_range P R E 2
            rw [hn] at h1 hn3 ⊢
            obtain ⟨hn1, hn2⟩ := hn3
            have hH := HE.out
            rw [hV] at hH
            simp only [if_true, if_false, Bool.false_eq_true] at h1
            go_wp2_with (first
              | (go_at_call 12; refine (has_is _ _ _ _ hH _).mono ?_; rintro e' w4 ⟨rfl, hb4⟩; have hz4 := hb4.size; simp at hz4; have hb4' : Below wr.heap.size wr w4 := (by repeat (first | exact Below.refl _ _ | assumption | refine Below.drew ?_ | refine Below.setCell ?_ (by first | (simp; done) | omega | (simp; omega)) _ | refine Below.alloc ?_ (by first | (simp; done) | omega | (simp; omega)) _ | refine bdrewN ?_ _ | refine bstep ?_ (by assumption) (by first | (simp; done) | omega | (simp; omega))))))
            go_roundw
            case rel => exact ⟨2 + 1, by omega, by go_num, by rw [h1], by repeat (first | exact Below.refl _ _ | assumption | refine Below.drew ?_ | refine Below.setCell ?_ (by first | (simp; done) | omega | (simp; omega)) _ | refine Below.alloc ?_ (by first | (simp; done) | omega | (simp; omega)) _ | refine bdrewN ?_ _ | refine bstep ?_ (by assumption) (by first | (simp; done) | omega | (simp; omega)))⟩
            case measure => simp [intOf]
        · have hc : cnt P R E 3 = (if X = true then 1 else 0) := by
            rcases hlaw with ⟨rfl, rfl, rfl, rfl⟩ | ⟨rfl, rfl, rfl, rfl⟩ | ⟨rfl, rfl, rfl, rfl⟩ | ⟨rfl, rfl, rfl, rfl⟩ <;> rfl
          rw [hc]
          clear hlaw hc HP HR HE b0 b1 b2 b3 b4 b5
          cases X
          all_goals
            simp only [if_true, if_false, Bool.false_eq_true]
            go_wp2_with (first
              | (go_at_call 12; refine (has_is _ _ _ _ HX.out _).mono ?_; rintro e' w4 ⟨rfl, hb4⟩; have hz4 := hb4.size))
            go_ret
            exact ⟨by simp, hBz.trans ((hb.trans (hb4.mono hsz)).mono hBz.size)⟩
end Go.Proofs.YtendjifhdpeebaaDoor
