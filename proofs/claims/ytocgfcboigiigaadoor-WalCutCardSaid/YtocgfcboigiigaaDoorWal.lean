/- Wal1, Wal2, Wal3, Wal4, Wal5, Wal6, in one text. The conditions stand at each theorem. -/
import Derived.Test.YtocgfcboigiigaaDoorFrm2
import Derived.Test.YtocgfcboigiigaaDoorDS
import Derived.Deep.RegionHeld3
import Derived.Deep.DrawnRows
import Derived.Test.YtocgfcboigiigaaDoorRows6
import Derived.Test.YtocgfcboigiigaaDoorAwake6
namespace Go.Proofs.YtocgfcboigiigaaDoor
open Go Go.Proofs Go.RowKit

/-- A log: its disk, its file's name. -/
def LogAt (w : World) (p a : Nat) (k : Txt) : Prop := w.heap[p]? = some (.cells #[.pointer (some ⟨a, 0, none⟩), .string ⟨k.toArray⟩] 80 (0, 0))
theorem LogAt.c0 {w : World} {p a : Nat} {k : Txt} (h : LogAt w p a k) : w.cell? ⟨p, 0, none⟩ = some (.pointer (some ⟨a, 0, none⟩)) := by rw [cell_of_blk h]; rfl
theorem LogAt.c1 {w : World} {p a : Nat} {k : Txt} (h : LogAt w p a k) : w.cell? ⟨p, 1, none⟩ = some (.string ⟨k.toArray⟩) := by rw [cell_of_blk h]; rfl
theorem LogAt.below {w w' : World} {p a : Nat} {k : Txt} (h : LogAt w p a k) (hb : Below w.heap.size w w') : LogAt w' p a k := (hb.block _ (lt_of_heap h)).trans h
theorem LogAt.mod {w w' : World} {p a : Nat} {k : Txt} {F : Nat → Prop} (h : LogAt w p a k) (hm : Mod F w w') (hn : ¬ F p) : LogAt w' p a k := hm.blk h hn
theorem putF_putF (F : Files) (k : FName) (x y : List UInt8 × Nat) : putF (putF F k x) k y = putF F k y := by
  funext z
  unfold putF
  split <;> rfl
theorem own_sep {w : World} {base e n c g : Nat} {A : Option Addr} {xs : List Value} (h : w.ownsRow base e 1 (.slice A n c) n xs) (hg : A.map (·.block) = some g) : base ≤ g := by
  rcases h.2 with ⟨h1, _⟩ | ⟨g', cap, cur, h1, h2, _⟩
  · injection h1 with h1
    subst h1
    cases hg
  · injection h1 with h1
    subst h1
    simp at hg
    omega
/-- Two calls, one behind the other. -/
theorem RetDS.trans {w w1 w2 : World} {B a pw nb' t' : Nat} {C C1 : Nat → Prop} {l room u' : Int} {F' : Files} {v : Value} {e : Ending} (hm : Mod (TouchD C pw) w w1) (hc : ∀ b, C1 b → C b ∨ w.heap.size ≤ b) (hb : Below B w w1) (h : RetDS w1 B C1 nb' a pw l u' room F' t' v e w2) : RetDS w B C nb' a pw l u' room F' t' v e w2 := by
  obtain ⟨h1, C2, h2, h3, h4, h5⟩ := h
  have hs := hm.size
  refine ⟨h1, C2, h2, fun b hb' => ?_, hm.trans h4 (fun k hk hk' => ?_), hb.trans (h5.mono (Nat.le_refl _))⟩
  · rcases h3 b hb' with h | h
    · exact hc b h
    · exact .inr (by omega)
  · rcases hk' with h | h
    · rcases hc k h with h | h
      · exact .inl h
      · omega
    · exact .inr h
set_option maxHeartbeats 4000000 in
set_option maxRecDepth 100000 in
theorem logAppend (B nb a pw t p B' : Nat) (C : Nat → Prop) (l u room : Int) (F : Files) (k : Txt) (bs : List UInt8) (A : Option Addr) (n c : Nat) (w : World) (h : DS B w C nb a pw l u room F t) (hp : LogAt w p a k) (hpc : ¬ C p) (hpp : p ≠ pw) (hnb : nb + 2 ≤ 1000000) (hl : l < 0) (hk : k.length ≤ maxLen) (hr : Reads w B' 1 A n (bv bs)) (hB' : B' ≤ w.heap.size) (hn : n ≤ 100000) (hroom : (t : Int) + ((n + 8 : Nat) : Int) ≤ room) :
    Calls Tryd.prog 32 #[.pointer (some ⟨p, 0, none⟩), .slice A n c] w (RetDS w B C (nb + 2) a pw l (u + 2) room (putF F k (dataF F k ++ wrapF bs, (dataF F k ++ wrapF bs).length)) (t + (n + 8)) (.int .i64 0)) := by
  have HD := Lib.hid h
  have HP := Lib.hid hp
  have HR := Lib.hid hr
  have c0 := hp.c0
  have c1 := hp.c1
  have hplt := lt_of_heap hp
  have hsz := h.size
  clear h hp hr
  go_enter Tryd.func32, Tryd.ntmps32
  go_wp2_with (fail)
  have hlt := HD.out.lt
  go_region_held3 (fun w' => w'.cell? ⟨p, 0, none⟩ = some (.pointer (some ⟨a, 0, none⟩)) ∧ w'.cell? ⟨p, 1, none⟩ = some (.string ⟨k.toArray⟩)) (first | exact ⟨e0, e1⟩ | exact ⟨d0, d1⟩ | exact ⟨c0, c1⟩ | go_keep) ((first
    | (go_at_call 16; refine (wrapC A n c B' bs _ (by exact HR.out) (by exact hB') (by omega)).mono ?_; rintro e w1 ⟨A1, c1', rfl, hown1, hb1⟩; have hbx : Below w.heap.size w w1 := ((Below.refl w.heap.size w).drew).trans hb1; have d0 := cellk hbx hplt c0; have d1 := cellk hbx hplt c1; have HB1 := Lib.hid hbx; clear hbx; have HO1 := Lib.hid hown1; clear hown1 hb1)
    | (go_at_call 33; refine (dsAppend B w1.heap.size C nb a pw t l u room F k (wrapF bs) A1 (n + 8) c1' w1 (HD.out.below HB1.out) (by omega) (.inl hl) hk hroom (Reads.of_own HO1.out) (Nat.le_refl _) (fun g hg hn => (by (have h1 := own_sep HO1.out hg); exact ⟨fun h => Nat.not_lt.2 h1 (hlt g (.inl h)), fun h => Nat.not_lt.2 h1 (hlt g (.inr h))⟩))).mono ?_; rintro e w2 ⟨rfl, C2, hd2, hc2, hm2, hb2⟩; have hp2 := (HP.out.below HB1.out).mod hm2 (fun h => h.elim hpc hpp); have e0 := hp2.c0; have e1 := hp2.c1; have HD2 := Lib.hid hd2; have HC2 := Lib.hid hc2; have HM2 := Lib.hid hm2; have HP2 := Lib.hid hp2; clear hd2 hc2 hm2 hb2 hp2)))
  have hzw := HB1.out.size
  have hp2c : ¬ TouchD C2 pw p := fun h => by
    rcases h with h | h
    · rcases HC2.out p h with h | h
      · exact hpc h
      · omega
    · exact hpp h
  go_wp2_with (fail)
  go_region_held3 (fun w' => w'.cell? ⟨p, 0, none⟩ = some (.pointer (some ⟨a, 0, none⟩)) ∧ w'.cell? ⟨p, 1, none⟩ = some (.string ⟨k.toArray⟩)) (first | exact ⟨f0, f1⟩ | exact ⟨e0, e1⟩ | go_keep) ((go_at_call 45; refine (dsSync B C2 (nb + 1) a pw (t + (n + 8)) l (u + 1) room (putF F k (dataF F k ++ wrapF bs, keptF F k)) k (dataF F k ++ wrapF bs) (keptF F k) _ (HD2.out.below ((Below.refl _ _).drew)) (by omega) (.inl hl) hk (putF_same _ _ _)).mono ?_; rintro e w3 ⟨rfl, C3, hd3, hc3, hm3, hb3⟩; have hp3 := LogAt.mod (by exact HP2.out) hm3 hp2c; have f0 := hp3.c0; have f1 := hp3.c1; have HD3 := Lib.hid hd3; have HC3 := Lib.hid hc3; have HM3 := Lib.hid hm3; have HB3 := Lib.hid hb3; clear hd3 hc3 hm3 hb3 hp3))
  go_wp2_with (fail)
  go_ret
  have hmw := (Mod.of_below (F := TouchD C pw) HB1.out).trans HM2.out (fun _ _ h => h)
  have hd3 := HD3.out
  rw [putF_putF, show nb + 1 + 1 = nb + 2 from rfl, show u + 1 + 1 = u + 2 by omega] at hd3
  refine RetDS.trans hmw (fun b hb => ?_) (HD.out.keeps hmw) ⟨rfl, C3, hd3, HC3.out, HM3.out.undrew, ((Below.refl B w2).drew).trans HB3.out⟩
  rcases HC2.out b hb with h | h
  · exact .inl h
  · exact .inr (by omega)

set_option maxHeartbeats 4000000 in
set_option maxRecDepth 100000 in
theorem logSize (B nb a pw t p : Nat) (C : Nat → Prop) (l u room : Int) (F : Files) (k : Txt) (w : World) (h : DS B w C nb a pw l u room F t) (hp : LogAt w p a k) (hk : k.length ≤ maxLen) :
    Calls Tryd.prog 43 #[.pointer (some ⟨p, 0, none⟩)] w fun e w' => e = .returned (.int .i64 (lenF F k : Nat)) ∧ Below w.heap.size w w' := by
  have HD := Lib.hid h
  have c0 := hp.c0
  have c1 := hp.c1
  have hplt := lt_of_heap hp
  clear h hp
  cases hF : F k with
  | none =>
    have HF := Lib.hid hF
    have hl : lenF F k = 0 := by simp [lenF, hF]
    clear hF
    rw [hl]
    go_enter Tryd.func43, Tryd.ntmps43
    go_wp2_with (fail)
    go_region_held3 (fun w' => w'.cell? ⟨p, 0, none⟩ = some (.pointer (some ⟨a, 0, none⟩)) ∧ w'.cell? ⟨p, 1, none⟩ = some (.string ⟨k.toArray⟩)) (first | exact ⟨c0, c1⟩ | go_keep) ((go_at_call 34; refine (dsReadNone B C nb a pw t l u room F k _ (HD.out.below ((Below.refl _ _).drew)) hk HF.out).mono ?_; rintro e w1 ⟨rfl, rfl⟩))
    go_wp2_with (fail)
    go_ret
    exact ⟨rfl, (Below.refl _ _).drew⟩
  | some x =>
    obtain ⟨bs, kept⟩ := x
    have HF := Lib.hid hF
    have hl : lenF F k = bs.length := by simp [lenF, hF]
    clear hF
    rw [hl]
    go_enter Tryd.func43, Tryd.ntmps43
    go_wp2_with (fail)
    go_region_held3 (fun w' => w'.cell? ⟨p, 0, none⟩ = some (.pointer (some ⟨a, 0, none⟩)) ∧ w'.cell? ⟨p, 1, none⟩ = some (.string ⟨k.toArray⟩)) (first | exact ⟨d0, d1⟩ | exact ⟨c0, c1⟩ | go_keep) ((go_at_call 34; refine (dsRead B C nb a pw t l u room F k bs kept _ (HD.out.below ((Below.refl _ _).drew)) hk HF.out).mono ?_; rintro e w1 ⟨v, A1, c1', rfl, rfl, _, _, hb1⟩; have hbx : Below w.heap.size w w1 := ((Below.refl w.heap.size w).drew).trans hb1; have d0 := cellk hbx hplt c0; have d1 := cellk hbx hplt c1; have HB1 := Lib.hid hbx; clear hbx hb1))
    go_wp2_with (fail)
    go_ret
    exact ⟨rfl, HB1.out⟩
set_option maxHeartbeats 4000000 in
set_option maxRecDepth 100000 in
theorem logClear (B nb a pw t p kept : Nat) (C : Nat → Prop) (l u room : Int) (F : Files) (k : Txt) (bs : List UInt8) (w : World) (h : DS B w C nb a pw l u room F t) (hp : LogAt w p a k) (hpc : ¬ C p) (hpp : p ≠ pw) (hnb : nb + 1 ≤ 1000000) (hl : l < 0) (hk : k.length ≤ maxLen) (hF : F k = some (bs, kept)) :
    Calls Tryd.prog 44 #[.pointer (some ⟨p, 0, none⟩)] w (RetDS w B C (nb + 1) a pw l (u + 1) room (putF F k ([], 0)) (t - bs.length) (.int .i64 0)) := by
  have HD := Lib.hid h
  have HP := Lib.hid hp
  have HF := Lib.hid hF
  have c0 := hp.c0
  have c1 := hp.c1
  have hplt := lt_of_heap hp
  clear h hp hF
  go_enter Tryd.func44, Tryd.ntmps44
  go_wp2_with (fail)
  go_region_held3 (fun w' => w'.cell? ⟨p, 0, none⟩ = some (.pointer (some ⟨a, 0, none⟩)) ∧ w'.cell? ⟨p, 1, none⟩ = some (.string ⟨k.toArray⟩)) (first | exact ⟨d0, d1⟩ | exact ⟨c0, c1⟩ | go_keep) ((go_at_call 34; refine (dsRead B C nb a pw t l u room F k bs kept _ (HD.out.below ((Below.refl _ _).drew)) hk HF.out).mono ?_; rintro e w1 ⟨v, A1, c1', rfl, rfl, _, _, hb1⟩; have hbx : Below w.heap.size w w1 := ((Below.refl w.heap.size w).drew).trans hb1; have d0 := cellk hbx hplt c0; have d1 := cellk hbx hplt c1; have HB1 := Lib.hid hbx; clear hbx hb1))
  have hd1 := HD.out.below HB1.out
  have hp1 := HP.out.below HB1.out
  have HD1 := Lib.hid hd1
  have HP1 := Lib.hid hp1
  have hz1 := HB1.out.size
  have hpt : ¬ TouchD C pw p := fun h => h.elim hpc hpp
  clear hd1 hp1
  go_wp2_with (fail)
  go_region_held3 (fun w' => w'.cell? ⟨p, 0, none⟩ = some (.pointer (some ⟨a, 0, none⟩)) ∧ w'.cell? ⟨p, 1, none⟩ = some (.string ⟨k.toArray⟩)) (first | exact ⟨f0, f1⟩ | exact ⟨d0, d1⟩ | go_keep) ((go_at_call 53; refine (dsCut B C nb a pw t 0 l u room F k bs kept _ (HD1.out.below ((Below.refl _ _).drew)) (by omega) (.inl hl) hk HF.out (Nat.zero_le _)).mono ?_; rintro e w3 ⟨rfl, C3, hd3, hc3, hm3, hb3⟩; have hp3 := LogAt.mod (by exact HP1.out) hm3 hpt; have f0 := hp3.c0; have f1 := hp3.c1; have HD3 := Lib.hid hd3; have HC3 := Lib.hid hc3; have HM3 := Lib.hid hm3; have HB3 := Lib.hid hb3; clear hd3 hc3 hm3 hb3 hp3))
  go_wp2_with (fail)
  go_ret
  have hmw := Mod.of_below (F := TouchD C pw) HB1.out
  exact RetDS.trans hmw (fun b hb => .inl hb) (HD.out.keeps hmw) ⟨rfl, C3, HD3.out, HC3.out, HM3.out.undrew, ((Below.refl B w1).drew).trans HB3.out⟩

theorem splitF_le : ∀ (k : Nat) (bs : List UInt8), bs.length ≤ k → (splitF bs).2 ≤ bs.length := by
  intro k
  induction k with
  | zero =>
    intro bs h
    have hb : bs = [] := List.length_eq_zero_iff.1 (by omega)
    rw [hb, splitF_none (by decide)]
    exact Nat.le_refl _
  | succ k ih =>
    intro bs h
    cases hs : split1 bs with
    | none => rw [splitF_none hs]; exact Nat.zero_le _
    | some x =>
      obtain ⟨p, r⟩ := x
      have hl := (split1_len hs).1
      have h1 := ih r (by omega)
      rw [splitF_some hs]
      simp only
      omega
theorem owns_mod {w w' : World} {base e size n : Nat} {v : Value} {xs : List Value} {F : Nat → Prop} (h : w.ownsRow base e size v n xs) (hm : Mod F w w') (hn : ∀ g, base ≤ g → ¬ F g) : w'.ownsRow base e size v n xs := by
  refine ⟨h.1, ?_⟩
  rcases h.2 with h2 | ⟨g, cap, cur, h2, h3, h4, h5⟩
  · exact .inl h2
  · exact .inr ⟨g, cap, cur, h2, h3, hm.blk h4 (hn g h3), h5⟩
theorem Pieces.mod {w w' : World} {base : Nat} {v : Value} {ps : List (List UInt8)} {F : Nat → Prop} (h : Pieces w base v ps) (hm : Mod F w w') (hn : ∀ g, base ≤ g → ¬ F g) : Pieces w' base v ps := by
  obtain ⟨L, h1, h2, h3⟩ := h
  exact ⟨L, h1, owns_mod h2 hm hn, fun x hx => owns_mod (h3 x hx) hm hn⟩
theorem Pieces.lower {w : World} {base base' : Nat} {v : Value} {ps : List (List UInt8)} (h : Pieces w base v ps) (hb : base' ≤ base) : Pieces w base' v ps := by
  obtain ⟨L, h1, h2, h3⟩ := h
  exact ⟨L, h1, owns_lower h2 hb, fun x hx => owns_lower (h3 x hx) hb⟩
/-- The files behind an opening. -/
def openF (F : Files) (k : FName) : Files := match F k with
  | some x => putF F k (x.1.take (splitF x.1).2, (splitF x.1).2)
  | none => F
/-- A log is answered, and the pieces that its file has; the file has these alone. -/
def RetOpen (w : World) (B : Nat) (C : Nat → Prop) (nb a pw : Nat) (l room : Int) (F : Files) (k : Txt) (e : Ending) (w' : World) : Prop :=
  ∃ (p : Nat) (v : Value) (C' : Nat → Prop) (u' : Int) (t' : Nat), e = .returned (.tuple #[.pointer (some ⟨p, 0, none⟩), v, .int .i64 0]) ∧ DS B w' C' (nb + 1) a pw l u' room (openF F k) t' ∧ (∀ b, C' b → C b ∨ w.heap.size ≤ b) ∧ Mod (TouchD C pw) w w' ∧ LogAt w' p a k ∧ w.heap.size ≤ p ∧ ¬ C' p ∧ Pieces w' w.heap.size v (splitF (dataF F k)).1
set_option maxHeartbeats 4000000 in
set_option maxRecDepth 100000 in
theorem logOpen_none (B nb a pw t : Nat) (C : Nat → Prop) (l u room : Int) (F : Files) (k : Txt) (w : World) (h : DS B w C nb a pw l u room F t) (hnb : nb + 1 ≤ 1000000) (hk : k.length ≤ maxLen) (hF : F k = none) :
    Calls Tryd.prog 31 #[.pointer (some ⟨a, 0, none⟩), .string ⟨k.toArray⟩] w (RetOpen w B C nb a pw l room F k) := by
  have HD := Lib.hid h
  have HF := Lib.hid hF
  clear h hF
  go_enter Tryd.func31, Tryd.ntmps31
  go_wp2_with (fail)
  refine (dsReadNone B C nb a pw t l u room F k _ (HD.out.below ((Below.refl _ _).alloc (Nat.le_refl _) _)) hk HF.out).mono ?_
  rintro e w1 ⟨rfl, rfl⟩
  go_wp2_with (fail)
  refine bodyPost_ret (v := .tuple #[.pointer (some ⟨w.heap.size, 0, none⟩), .slice none 0 0, .int .i64 0]) (by simp [results, Tryd.results31, go_sem, *]) rfl ?_
  have hb := (Below.refl w.heap.size w).alloc (Nat.le_refl _) (.cells #[.pointer (some ⟨a, 0, none⟩), .string ⟨k.toArray⟩] 80 (0, 0))
  refine ⟨_, _, C, u, t, rfl, ?_, fun b hb => .inl hb, Mod.of_below hb, heap_alloc_new _ _, Nat.le_refl _, fun h => ?_, ?_⟩
  · have : openF F k = F := by simp [openF, HF.out]
    rw [this]
    exact (HD.out.below hb).more (by omega) hnb
  · have := HD.out.lt _ (.inl h)
    omega
  · have : (splitF (dataF F k)).1 = [] := by simp [dataF, HF.out]; rw [splitF_none (by decide)]
    rw [this]
    exact Pieces.nil _ _
set_option maxHeartbeats 4000000 in
set_option maxRecDepth 100000 in
theorem logOpen_some (B nb a pw t kept : Nat) (C : Nat → Prop) (l u room : Int) (F : Files) (k : Txt) (bs : List UInt8) (w : World) (h : DS B w C nb a pw l u room F t) (hnb : nb + 1 ≤ 1000000) (hl : l < 0) (hk : k.length ≤ maxLen) (hF : F k = some (bs, kept)) :
    Calls Tryd.prog 31 #[.pointer (some ⟨a, 0, none⟩), .string ⟨k.toArray⟩] w (RetOpen w B C nb a pw l room F k) := by
  have hlt := h.lt
  have hln : bs.length ≤ 1000000 := by
    have h1 := h.tot.one k
    have h2 : lenF F k = bs.length := by simp [lenF, hF]
    have := h.t1
    have := h.r1
    omega
  have hkp := h.kept k bs kept hF
  have hop : openF F k = putF F k (bs.take (splitF bs).2, (splitF bs).2) := by simp [openF, hF]
  have hda : dataF F k = bs := by simp [dataF, hF]
  have hgl := splitF_le bs.length bs (Nat.le_refl _)
  have HD := Lib.hid h
  have HF := Lib.hid hF
  have HOP := Lib.hid hop
  have HDA := Lib.hid hda
  clear h hF hop hda
  obtain ⟨G, hG⟩ : ∃ G, G = (splitF bs).2 := ⟨_, rfl⟩
  obtain ⟨len, hlen⟩ : ∃ len, len = bs.length := ⟨_, rfl⟩
  rw [← hG] at hgl
  rw [← hlen] at hgl hln hkp
  have HG := Lib.hid hG
  have HLEN := Lib.hid hlen
  clear hG hlen
  go_enter Tryd.func31, Tryd.ntmps31
  go_wp2_with (fail)
  have hb1 := (Below.refl w.heap.size w).alloc (Nat.le_refl _) (.cells #[.pointer (some ⟨a, 0, none⟩), .string ⟨k.toArray⟩] 80 (0, 0))
  have hp1 : LogAt (w.alloc (.cells #[.pointer (some ⟨a, 0, none⟩), .string ⟨k.toArray⟩] 80 (0, 0))) w.heap.size a k := heap_alloc_new _ _
  have hs1 : (w.alloc (.cells #[.pointer (some ⟨a, 0, none⟩), .string ⟨k.toArray⟩] 80 (0, 0))).heap.size = w.heap.size + 1 := World.size_alloc _ _
  have HD1 := Lib.hid (HD.out.below hb1)
  generalize w.alloc (.cells #[.pointer (some ⟨a, 0, none⟩), .string ⟨k.toArray⟩] 80 (0, 0)) = w1 at *
  refine (dsRead B C nb a pw t l u room F k bs kept w1 HD1.out hk HF.out).mono ?_
  rintro e w2 ⟨v, A2, c2, rfl, rfl, hrow2, _, hb2⟩
  rw [← HLEN.out] at hrow2 ⊢
  have hc2 : len ≤ c2 := by
    obtain ⟨_, _, e2, h2⟩ := hrow2.form
    injection e2 with _ _ e2
    omega
  have hz2 := hb2.size
  have hp2 := hp1.below hb2
  have HD2 := Lib.hid (HD1.out.below hb2)
  have HB2 := Lib.hid (hb1.trans (hb2.mono (by omega)))
  have HR2 := Lib.hid hrow2.reads
  clear hrow2 hb2 hp1 hb1 HD1
  go_wp2_with (fail)
  refine (splitC A2 len c2 _ bs w2 HR2.out (Nat.le_refl _) (by omega) hc2).mono ?_
  rintro e w3 ⟨v3, rfl, hpc3, hb3⟩
  rw [← HG.out]
  obtain ⟨A3, c3, rfl, _⟩ := hpc3.form
  have hz3 := hb3.size
  have hp3 := hp2.below hb3
  have HD3 := Lib.hid (HD2.out.below hb3)
  have HB3 := Lib.hid (HB2.out.trans (hb3.mono (by omega)))
  have HPC := Lib.hid hpc3
  clear hpc3 hb3 hp2 HD2 HB2
  by_cases hg : G < len
  · have hgd : decide (G < len) = true := decide_eq_true hg
    go_wp2_with (fail)
    refine (dsCut B C nb a pw t G l u room F k bs kept w3 HD3.out (by omega) (.inl hl) hk HF.out (by rw [← HLEN.out]; omega)).mono ?_
    rintro e w4 ⟨rfl, C4, hd4, hc4, hm4, hb4⟩
    have HD4 := Lib.hid hd4
    have HC4 := Lib.hid hc4
    have HM4 := Lib.hid hm4
    clear hd4 hc4 hm4 hb4
    go_wp2_with (fail)
    refine bodyPost_ret (v := .tuple #[.pointer (some ⟨w.heap.size, 0, none⟩), .slice A3 (splitF bs).1.length c3, .int .i64 0]) (by simp [results, Tryd.results31, go_sem, *]) rfl ?_
    have hpt : ∀ g, w.heap.size ≤ g → ¬ TouchD C pw g := fun g hg h => Nat.not_lt.2 hg (hlt g h)
    refine ⟨_, _, C4, u + 1, _, rfl, by rw [HOP.out, ← HG.out]; exact HD4.out, fun b hb => ?_, (Mod.of_below HB3.out).trans HM4.out (fun _ _ h => h), hp3.mod HM4.out (hpt _ (Nat.le_refl _)), Nat.le_refl _, fun h => ?_, ?_⟩
    · rcases HC4.out b hb with h | h
      · exact .inl h
      · exact .inr (by omega)
    · rcases HC4.out _ h with h | h
      · exact hpt _ (Nat.le_refl _) (.inl h)
      · omega
    · rw [HDA.out]
      exact (HPC.out.mod HM4.out (fun g hg => hpt g (by omega))).lower (by omega)
  · have hgd : decide (G < len) = false := decide_eq_false hg
    go_wp2_with (fail)
    refine (dsKept B C nb a pw t l u room F k w3 HD3.out hk).mono ?_
    rintro e w4 ⟨rfl, rfl⟩
    have hkf : keptF F k = kept := by simp [keptF, HF.out]
    rw [hkf]
    clear hkf
    by_cases hkg : kept < G
    · have hkd : decide (kept < G) = true := decide_eq_true hkg
      go_wp2_with (fail)
      refine (dsCut B C nb a pw t G l u room F k bs kept w4 HD3.out (by omega) (.inl hl) hk HF.out (by rw [← HLEN.out]; omega)).mono ?_
      rintro e w5 ⟨rfl, C4, hd4, hc4, hm4, hb4⟩
      have HD4 := Lib.hid hd4
      have HC4 := Lib.hid hc4
      have HM4 := Lib.hid hm4
      clear hd4 hc4 hm4 hb4
      go_wp2_with (fail)
      refine bodyPost_ret (v := .tuple #[.pointer (some ⟨w.heap.size, 0, none⟩), .slice A3 (splitF bs).1.length c3, .int .i64 0]) (by simp [results, Tryd.results31, go_sem, *]) rfl ?_
      have hpt : ∀ g, w.heap.size ≤ g → ¬ TouchD C pw g := fun g hg h => Nat.not_lt.2 hg (hlt g h)
      refine ⟨_, _, C4, u + 1, _, rfl, by rw [HOP.out, ← HG.out]; exact HD4.out, fun b hb => ?_, (Mod.of_below HB3.out).trans HM4.out (fun _ _ h => h), hp3.mod HM4.out (hpt _ (Nat.le_refl _)), Nat.le_refl _, fun h => ?_, ?_⟩
      · rcases HC4.out b hb with h | h
        · exact .inl h
        · exact .inr (by omega)
      · rcases HC4.out _ h with h | h
        · exact hpt _ (Nat.le_refl _) (.inl h)
        · omega
      · rw [HDA.out]
        exact (HPC.out.mod HM4.out (fun g hg => hpt g (by omega))).lower (by omega)
    · have hkd : decide (kept < G) = false := decide_eq_false hkg
      go_wp2_with (fail)
      refine bodyPost_ret (v := .tuple #[.pointer (some ⟨w.heap.size, 0, none⟩), .slice A3 (splitF bs).1.length c3, .int .i64 0]) (by simp [results, Tryd.results31, go_sem, *]) rfl ?_
      have hsame : openF F k = F := by
        rw [HOP.out, ← HG.out, List.take_of_length_le (by rw [← HLEN.out]; omega)]
        funext z
        unfold putF
        split
        · rename_i hz
          rw [hz, HF.out, show kept = G by omega]
        · rfl
      refine ⟨_, _, C, u, t, rfl, by rw [hsame]; exact HD3.out.more (by omega) hnb, fun b hb => .inl hb, Mod.of_below HB3.out, hp3, Nat.le_refl _, fun h => ?_, ?_⟩
      · have := hlt _ (.inl h)
        omega
      · rw [HDA.out]
        exact HPC.out.lower (by omega)

set_option maxHeartbeats 4000000 in
set_option maxRecDepth 100000 in
theorem light7 (v : Bool) (A : Option Addr) (n c B : Nat) (L : BL) (w : World) (hr : RowsAt w B A n L) (hn : n ≤ 9223372036854775807) (hv : decide ((∀ x ∈ L, x.2.1 ≤ 40) ∧ n ≤ 12) = v) :
    Calls Tryd.prog 29 #[.slice A n c] w fun e w' => e = .returned (.bool v) ∧ w' = w := by
  have hl := hr.len
  have HR := Lib.hid hr
  have HL := Lib.hid hl
  have HV := Lib.hid hv
  clear hr hl hv
  go_enter Tryd.func29, Tryd.ntmps29
  go_wp2_with (fail)
  go_loopw [7] (fun i wr => ∃ k : Nat, k ≤ n ∧ i = .int .i64 k ∧ Hid (∀ j x, j < k → L[j]? = some x → x.2.1 ≤ 40) ∧ wr = w) (fun i _ => n - (intOf i).toNat)
  case atStart => exact ⟨0, Nat.zero_le _, rfl, Lib.hid (fun j x h => by omega), rfl⟩
  case round =>
    obtain ⟨k, hk, rfl, H40, rfl⟩ := hrel
    by_cases hlt : k < n
    · obtain ⟨x, hx⟩ : ∃ x, L[k]? = some x := ⟨L[k]'(by rw [HL.out]; exact hlt), List.getElem?_eq_getElem _⟩
      obtain ⟨ad, rfl, had, hc⟩ := HR.out.1.2 (by omega)
      have d0 : wr.cell? (ad.add k) = some (.slice x.1 x.2.1 x.2.2.1) := hc k (slV x) (by rw [List.getElem?_map, hx]; rfl)
      obtain ⟨a1, n1, c1, p⟩ := x
      simp only at d0
      have HX := Lib.hid hx
      have hin0 : (0 : Int) ≤ (k : Int) := by omega
      have hin1 : (k : Int) < (n : Int) := by omega
      clear hx hc
      by_cases h40 : n1 ≤ 40
      · have g2 : decide ((40 : Int) < (n1 : Int)) = false := decide_eq_false (by omega)
        go_wp2_with (fail)
        refine ⟨⟨k + 1, by omega, by go_num, Lib.hid (fun j y hj hy => ?_), trivial⟩, by simp [intOf]; omega⟩
        by_cases hjk : j = k
        · subst hjk
          obtain rfl := Option.some.inj (HX.out.symm.trans hy)
          exact h40
        · exact H40.out j y (by omega) hy
      · have g2 : decide ((40 : Int) < (n1 : Int)) = true := decide_eq_true (by omega)
        have hF : v = false := by
          rw [← HV.out]
          exact decide_eq_false fun h => h40 (h.1 _ (List.mem_of_getElem? HX.out))
        subst hF
        go_wp2_with (fail)
        go_ret
        exact ⟨rfl, rfl⟩
    · obtain rfl : k = n := by omega
      have hall : ∀ x ∈ L, x.2.1 ≤ 40 := fun x hx => by
        obtain ⟨j, hj⟩ := List.getElem?_of_mem hx
        exact H40.out j x (by have := (List.getElem?_eq_some_iff.1 hj).1; rw [HL.out] at this; exact this) hj
      have hv : decide (k ≤ 12) = v := by
        rw [← HV.out]
        simp only [decide_eq_decide]
        exact ⟨fun h => ⟨hall, h⟩, fun h => h.2⟩
      clear hall
      go_wp2_with (fail)
      go_ret
      have hv' : decide ((k : Int) ≤ 12) = v := by
        rw [← hv]
        simp only [decide_eq_decide]
        omega
      exact ⟨congrArg (fun b => Ending.returned (.bool b)) hv', rfl⟩

set_option maxHeartbeats 4000000 in
set_option maxRecDepth 100000 in
theorem logOpen_new (B nb a pw t : Nat) (C : Nat → Prop) (l u room : Int) (F : Files) (k : Txt) (w : World) (h : DS B w C nb a pw l u room F t) (hk : k.length ≤ maxLen) (hF : F k = none) :
    Calls Tryd.prog 31 #[.pointer (some ⟨a, 0, none⟩), .string ⟨k.toArray⟩] w fun e w' => e = .returned (.tuple #[.pointer (some ⟨w.heap.size, 0, none⟩), .slice none 0 0, .int .i64 0]) ∧ LogAt w' w.heap.size a k ∧ Below w.heap.size w w' := by
  have HD := Lib.hid h
  have HF := Lib.hid hF
  clear h hF
  go_enter Tryd.func31, Tryd.ntmps31
  go_wp2_with (fail)
  refine (dsReadNone B C nb a pw t l u room F k _ (HD.out.below ((Below.refl _ _).alloc (Nat.le_refl _) _)) hk HF.out).mono ?_
  rintro e w1 ⟨rfl, rfl⟩
  go_wp2_with (fail)
  refine bodyPost_ret (v := .tuple #[.pointer (some ⟨w.heap.size, 0, none⟩), .slice none 0 0, .int .i64 0]) (by simp [results, Tryd.results31, go_sem, *]) rfl ?_
  exact ⟨rfl, heap_alloc_new _ _, (Below.refl w.heap.size w).alloc (Nat.le_refl _) _⟩
set_option maxHeartbeats 4000000 in
set_option maxRecDepth 100000 in
theorem awake7_any (w : World) (hn : NoneLaid w) : Calls Tryd.prog 28 #[] w fun e w' => e = .returned (.bool true) ∧ Below w.heap.size w w' := by
  go_enter Tryd.func28, Tryd.ntmps28
  go_wp2_with (fail)
  refine (awake6_any w hn).mono ?_
  rintro e w1 ⟨rfl, hb1⟩
  clear hn
  have hz1 := hb1.size
  go_wp2_with (fail)
  refine (dsNew 100 w1 (by omega) (by omega)).mono ?_
  rintro e w2 ⟨C, a, pw, rfl, hd, hb2⟩
  have hz2 := hb2.size
  have hlt := hd.lt
  have HD := Lib.hid hd
  have HB2 := Lib.hid (hb1.trans (hb2.mono hz1))
  clear hd hb1 hb2
  go_wp2_with (fail)
  refine (logOpen_new w1.heap.size 0 a pw 0 C (-1) 0 100 (fun _ => none) [108, 111, 103] w2 HD.out (by decide) rfl).mono ?_
  rintro e w3 ⟨rfl, hp3, hb3⟩
  have hz3 := hb3.size
  have hpc : ¬ C w2.heap.size := fun h => Nat.lt_irrefl _ (hlt _ (.inl h))
  have hpp : w2.heap.size ≠ pw := fun h => by have := hlt pw (.inr rfl); omega
  have HD3 := Lib.hid (HD.out.below hb3)
  have HP3 := Lib.hid hp3
  have HB3 := Lib.hid (HB2.out.trans (hb3.mono (by omega)))
  obtain ⟨p, hpe⟩ : ∃ p, p = w2.heap.size := ⟨_, rfl⟩
  rw [← hpe] at HP3 hpc hpp ⊢
  clear hp3 hb3 hpe
  go_wp2_with (fail)
  have hba := (Below.refl w3.heap.size w3).alloc (Nat.le_refl _) (.cells #[.int .u8 7] 5 (0, 0))
  have hrd : Reads (w3.alloc (.cells #[.int .u8 7] 5 (0, 0))) (w3.alloc (.cells #[.int .u8 7] 5 (0, 0))).heap.size 1 (some ⟨w3.heap.size, 0, none⟩) 1 (bv [7]) := reads_blk (heap_alloc_new w3 (.cells #[.int .u8 7] 5 (0, 0))) rfl
  have HD4 := Lib.hid (HD3.out.below hba)
  have HP4 := Lib.hid (HP3.out.below hba)
  have HR4 := Lib.hid hrd
  have HB4 := Lib.hid (HB3.out.trans (hba.mono (by omega)))
  clear hba hrd
  generalize w3.alloc (.cells #[.int .u8 7] 5 (0, 0)) = w4 at *
  refine (logAppend w1.heap.size 0 a pw 0 p w4.heap.size C (-1) 0 100 (fun _ => none) [108, 111, 103] [7] _ 1 1 w4 HD4.out HP4.out hpc hpp (by omega) (by omega) (by decide) HR4.out (Nat.le_refl _) (by omega) (by decide)).mono ?_
  rintro e w5 ⟨rfl, C5, hd5, hc5, hm5, hb5⟩
  have HD5 := Lib.hid hd5
  have HP5 := Lib.hid (HP4.out.mod hm5 (fun h => h.elim hpc hpp))
  have HB5 := Lib.hid (HB4.out.trans (hb5.mono hz1))
  clear hd5 hc5 hm5 hb5
  go_wp2_with (fail)
  refine (logSize w1.heap.size 2 a pw _ p C5 (-1) _ 100 _ [108, 111, 103] w5 HD5.out HP5.out (by decide)).mono ?_
  rintro e w6 ⟨rfl, hb6⟩
  have h9 : lenF (putF (fun _ => none) [108, 111, 103] (dataF (fun _ => none) [108, 111, 103] ++ wrapF [7], (dataF (fun _ => none) [108, 111, 103] ++ wrapF [7]).length)) [108, 111, 103] = 9 := by
    simp only [lenF, putF_same, dataF, List.nil_append, wrapF_len]
    rfl
  rw [h9]
  clear h9
  go_wp2_with (fail)
  go_ret
  exact ⟨rfl, HB5.out.trans (hb6.mono (by have := HB5.out.size; omega))⟩

/-- A log's file: it isn't there, and has no pieces; or it has these, kept. -/
def LogHas (F : Files) (k : FName) (ps : List (List UInt8)) : Prop := (F k = none ∧ ps = []) ∨ F k = some (rowsF ps, (rowsF ps).length)
theorem LogHas.data {F : Files} {k : FName} {ps : List (List UInt8)} (h : LogHas F k ps) : dataF F k = rowsF ps := by
  rcases h with ⟨h, rfl⟩ | h
  · simp [dataF, h, rowsF]
  · simp [dataF, h]
theorem LogHas.nil {F : Files} {k : FName} (h : F k = none) : LogHas F k [] := .inl ⟨h, rfl⟩
theorem LogHas.app {F : Files} {k : FName} {ps : List (List UInt8)} (h : LogHas F k ps) (p : List UInt8) : LogHas (putF F k (dataF F k ++ wrapF p, (dataF F k ++ wrapF p).length)) k (ps ++ [p]) := by
  refine .inr ?_
  rw [putF_same, h.data, rowsF_append, show rowsF [p] = wrapF p by simp [rowsF]]
theorem LogHas.other {F : Files} {k k' : FName} {ps : List (List UInt8)} (h : LogHas F k ps) (hk : k ≠ k') (x : List UInt8 × Nat) : LogHas (putF F k' x) k ps := by
  have e : putF F k' x k = F k := by unfold putF; rw [if_neg hk]
  unfold LogHas
  rw [e]
  exact h
theorem LogHas.cleared (F : Files) (k : FName) : LogHas (putF F k ([], 0)) k [] := .inr (by rw [putF_same]; rfl)
theorem LogHas.crash {F : Files} {k : FName} {ps : List (List UInt8)} (h : LogHas F k ps) (ch) : LogHas (crashF F ch) k ps := by
  rcases h with ⟨h, rfl⟩ | h
  · exact .inl ⟨by simp [crashF, h], rfl⟩
  · refine .inr ?_
    simp only [crashF, h, Option.map_some, crash1, Nat.sub_self, Nat.zero_add, Nat.mod_one, Nat.add_zero, List.take_length]
theorem LogHas.open_ {F : Files} {k : FName} {ps : List (List UInt8)} (h : LogHas F k ps) (hp : ∀ p ∈ ps, p.length < 2 ^ 32) : openF F k = F ∧ (splitF (dataF F k)).1 = ps := by
  have h2 := splitF_all ps hp
  refine ⟨?_, by rw [h.data, h2]⟩
  rcases h with ⟨h, rfl⟩ | h
  · simp [openF, h]
  · have e : openF F k = putF F k (rowsF ps, (rowsF ps).length) := by simp [openF, h, h2]
    rw [e]
    funext z
    unfold putF
    split
    · rename_i hz; rw [hz, h]
    · rfl
theorem rows_small40 {w : World} {B n : Nat} {A : Option Addr} {L : BL} (h : RowsAt w B A n L) (hs : ∀ x ∈ L, x.2.1 ≤ 40) : ∀ p ∈ bytesOf L, p.length ≤ 40 := fun p hp => by
  obtain ⟨x, hx, rfl⟩ := List.mem_map.1 hp
  have h1 := (h.2 x hx).1
  rw [bv_length] at h1
  have h2 := hs x hx
  omega
theorem rows_le40 {w : World} {B n : Nat} {A : Option Addr} {L : BL} (h : RowsAt w B A n L) (hb : ∀ p ∈ bytesOf L, p.length ≤ 40) : ∀ x ∈ L, x.2.1 ≤ 1000000000 := fun x hx => by
  have h1 := (h.2 x hx).1
  rw [bv_length] at h1
  have h2 := hb x.2.2.2 (List.mem_map_of_mem hx)
  omega
/-- A log is opened that has these pieces: they are answered, and nothing of the files is changed. -/
def RetHas (w : World) (B : Nat) (C : Nat → Prop) (nb a pw : Nat) (l room : Int) (F : Files) (t : Nat) (k : Txt) (m : Nat) (ps : List (List UInt8)) (e : Ending) (w' : World) : Prop :=
  ∃ (p : Nat) (A : Option Addr) (c : Nat) (L : BL) (C' : Nat → Prop) (u' : Int), e = .returned (.tuple #[.pointer (some ⟨p, 0, none⟩), .slice A m c, .int .i64 0]) ∧ DS B w' C' nb a pw l u' room F t ∧ (∀ b, C' b → C b ∨ w.heap.size ≤ b) ∧ Mod (TouchD C pw) w w' ∧ LogAt w' p a k ∧ w.heap.size ≤ p ∧ ¬ C' p ∧ RowsAt w' w'.heap.size A m L ∧ bytesOf L = ps ∧ Below B w w' ∧ m ≤ c
theorem logOpen_has (B nb a pw t : Nat) (C : Nat → Prop) (l u room : Int) (F : Files) (k : Txt) (m : Nat) (ps : List (List UInt8)) (w : World) (h : DS B w C nb a pw l u room F t) (hnb : nb + 1 ≤ 1000000) (hl : l < 0) (hk : k.length ≤ maxLen) (hh : LogHas F k ps) (hp : ∀ p ∈ ps, p.length ≤ 1000000) (hm : ps.length = m) :
    Calls Tryd.prog 31 #[.pointer (some ⟨a, 0, none⟩), .string ⟨k.toArray⟩] w (RetHas w B C (nb + 1) a pw l room F t k m ps) := by
  obtain ⟨h1, h2⟩ := hh.open_ (fun p hp' => Nat.lt_of_le_of_lt (hp p hp') (by decide))
  have hR : Calls Tryd.prog 31 #[.pointer (some ⟨a, 0, none⟩), .string ⟨k.toArray⟩] w (RetOpen w B C nb a pw l room F k) := by
    cases hF : F k with
    | none => exact logOpen_none B nb a pw t C l u room F k w h hnb hk hF
    | some x => exact logOpen_some B nb a pw t x.2 C l u room F k x.1 w h hnb hl hk hF
  refine hR.mono ?_
  rintro e w' ⟨p, v, C', u', t', rfl, hd, hc, hm', hp', hpn, hpc, hps⟩
  rw [h1] at hd
  rw [h2] at hps
  obtain ⟨A, c, L, rfl, hr, hL⟩ := hps.rows
  have ht : t' = t := hd.tot.unique h.tot
  rw [ht] at hd
  have hcm : ps.length ≤ c := by
    obtain ⟨A2, c2, e2, h2⟩ := hps.form
    injection e2 with _ _ e2
    omega
  rw [hm] at hr hcm ⊢
  exact ⟨p, A, c, L, C', u', rfl, hd, hc, hm', hp', hpn, hpc, hr, hL, h.keeps hm', hcm⟩
set_option maxHeartbeats 4000000 in
set_option maxRecDepth 100000 in
/-- Append without room: the disk's error, and nothing is changed. -/
theorem logAppendFail (B nb a pw t p B' : Nat) (C : Nat → Prop) (l u room : Int) (F : Files) (k : Txt) (bs : List UInt8) (A : Option Addr) (n c : Nat) (w : World) (h : DS B w C nb a pw l u room F t) (hp : LogAt w p a k) (hr : Reads w B' 1 A n (bv bs)) (hB' : B' ≤ w.heap.size) (hn : n ≤ 100000) (hroom : room < (t : Int) + ((n + 8 : Nat) : Int)) :
    Calls Tryd.prog 32 #[.pointer (some ⟨p, 0, none⟩), .slice A n c] w fun e w' => e = .returned (.int .i64 9) ∧ Below w.heap.size w w' := by
  have HD := Lib.hid h
  have HP := Lib.hid hp
  have HR := Lib.hid hr
  have c0 := hp.c0
  have c1 := hp.c1
  have hplt := lt_of_heap hp
  clear h hp hr
  go_enter Tryd.func32, Tryd.ntmps32
  go_wp2_with (fail)
  go_region_held3 (fun w' => w'.cell? ⟨p, 0, none⟩ = some (.pointer (some ⟨a, 0, none⟩)) ∧ w'.cell? ⟨p, 1, none⟩ = some (.string ⟨k.toArray⟩)) (first | exact ⟨e0, e1⟩ | exact ⟨d0, d1⟩ | exact ⟨c0, c1⟩ | go_keep) ((first
    | (go_at_call 16; refine (wrapC A n c B' bs _ (by exact HR.out) (by exact hB') (by omega)).mono ?_; rintro e w1 ⟨A1, c1', rfl, hown1, hb1⟩; have hbx : Below w.heap.size w w1 := ((Below.refl w.heap.size w).drew).trans hb1; have d0 := cellk hbx hplt c0; have d1 := cellk hbx hplt c1; have HB1 := Lib.hid hbx; clear hbx hown1 hb1)
    | (go_at_call 33; refine (dsAppendFail B C nb a pw t l u room F k A1 (n + 8) c1' w1 (HD.out.below HB1.out) (by omega) hroom).mono ?_; rintro e w2 ⟨rfl, hb2⟩; have hby := HB1.out.trans (hb2.mono HB1.out.size); have e0 := cellk hby hplt c0; have e1 := cellk hby hplt c1; have HB2 := Lib.hid hby; clear hby hb2)))
  go_wp2_with (fail)
  go_ret
  exact ⟨rfl, HB2.out⟩
theorem DS.grown {B : Nat} {w w' : World} {C : Nat → Prop} {nb a pw : Nat} {l u room : Int} {F : Files} {t : Nat} {row : Option Nat} (h : DS B w C nb a pw l u room F t) (hg : w.grownBy w' row) (hr : ∀ g, row = some g → ¬ C g ∧ g ≠ pw) : DS B w' C nb a pw l u room F t :=
  h.mod (G := fun b => row = some b) ((Mod.refl _ w).grown hg (fun _ hg _ => hg)) (fun b hb e => (hr b e).1 hb) (fun e => (hr pw e).2 rfl)
theorem LogAt.grown {w w' : World} {p a : Nat} {k : Txt} {row : Option Nat} (h : LogAt w p a k) (hg : w.grownBy w' row) (hr : row ≠ some p) : LogAt w' p a k :=
  h.mod (F := fun b => row = some b) ((Mod.refl _ w).grown hg (fun _ hg _ => hg)) hr
theorem owns_modv {w w' : World} {base e size n : Nat} {v : Value} {xs : List Value} {F : Nat → Prop} (h : w.ownsRow base e size v n xs) (hm : Mod F w w') (hn : ∀ g, v.ownBlock = some g → ¬ F g) : w'.ownsRow base e size v n xs := by
  refine ⟨h.1, ?_⟩
  rcases h.2 with h2 | ⟨g, cap, cur, h2, h3, h4, h5⟩
  · exact .inl h2
  · exact .inr ⟨g, cap, cur, h2, h3, hm.blk h4 (hn g (by rw [h2]; rfl)), h5⟩
/-- Cleared: no pieces, the other files as they were. -/
def RetClear (w : World) (B : Nat) (C : Nat → Prop) (nb a pw : Nat) (l room : Int) (F : Files) (t : Nat) (k : Txt) (e : Ending) (w' : World) : Prop :=
  e = .returned (.int .i64 0) ∧ ∃ C' u' F' t', DS B w' C' nb a pw l u' room F' t' ∧ LogHas F' k [] ∧ (∀ k', k' ≠ k → F' k' = F k') ∧ t' ≤ t ∧ (∀ b, C' b → C b ∨ w.heap.size ≤ b) ∧ Mod (TouchD C pw) w w' ∧ Below B w w'
set_option maxHeartbeats 4000000 in
set_option maxRecDepth 100000 in
theorem logClear_has (B nb a pw t p : Nat) (C : Nat → Prop) (l u room : Int) (F : Files) (k : Txt) (w : World) (h : DS B w C nb a pw l u room F t) (hp : LogAt w p a k) (hpc : ¬ C p) (hpp : p ≠ pw) (hnb : nb + 1 ≤ 1000000) (hl : l < 0) (hk : k.length ≤ maxLen) :
    Calls Tryd.prog 44 #[.pointer (some ⟨p, 0, none⟩)] w (RetClear w B C (nb + 1) a pw l room F t k) := by
  cases hF : F k with
  | none =>
    have HD := Lib.hid h
    have HF := Lib.hid hF
    have c0 := hp.c0
    have c1 := hp.c1
    clear h hp hF
    go_enter Tryd.func44, Tryd.ntmps44
    go_wp2_with (fail)
    go_region_held3 (fun w' => w'.cell? ⟨p, 0, none⟩ = some (.pointer (some ⟨a, 0, none⟩)) ∧ w'.cell? ⟨p, 1, none⟩ = some (.string ⟨k.toArray⟩)) (first | exact ⟨c0, c1⟩ | go_keep) ((go_at_call 34; refine (dsReadNone B C nb a pw t l u room F k _ (HD.out.below ((Below.refl _ _).drew)) hk HF.out).mono ?_; rintro e w1 ⟨rfl, rfl⟩))
    go_wp2_with (fail)
    go_ret
    have hb := (Below.refl w.heap.size w).drew
    exact ⟨rfl, C, u, F, t, (HD.out.below hb).more (by omega) hnb, .nil HF.out, fun _ _ => rfl, Nat.le_refl _, fun b hb => .inl hb, Mod.of_below hb, hb.mono HD.out.size⟩
  | some x =>
    refine (logClear B nb a pw t p x.2 C l u room F k x.1 w h hp hpc hpp hnb hl hk hF).mono ?_
    rintro e w' ⟨rfl, C', hd, hc, hm, hb⟩
    exact ⟨rfl, C', u + 1, _, _, hd, .cleared F k, fun k' hk' => by unfold putF; rw [if_neg hk'], Nat.sub_le _ _, hc, hm, hb⟩
end Go.Proofs.YtocgfcboigiigaaDoor
