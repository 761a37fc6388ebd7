/- The law's own disk in memory (selionlaw04.M): its blocks, its files; what keeps it, what turns it; used. No condition; not too many bytes. -/
import Derived.Test.YtfccoiofpmhbdaaDoorDS
import Derived.Test.YtfccoiofpmhbdaaDoorMapS
namespace Go.Proofs.YtfccoiofpmhbdaaDoor
open Go Go.Proofs Go.RowKit

/-- The names that the law picks from. -/
def namesL : List Txt := [[97], [98], [108, 111, 103], []]
/-- They lie below B, as the package's text lays them. -/
structure NamesLaid (w : World) (B : Nat) : Prop where
  lt : 0 < B
  top : ∃ A c, w.cell? ⟨0, 0, none⟩ = some (.slice A 4 c) ∧ Reads w B 1 A 4 (namesL.map txt)
theorem NamesLaid.below {w w' : World} {B : Nat} (h : NamesLaid w B) (hb : Below B w w') : NamesLaid w' B := by
  obtain ⟨h1, A, c, h2, h3⟩ := h
  exact ⟨h1, A, c, (hb.cell h1).trans h2, h3.below hb⟩
/-- The name that a number picks. -/
def nameAt (n : Nat) : Txt := namesL.getD (n % 4) []
theorem nameAt_len (n : Nat) : (nameAt n).length ≤ maxLen := by
  unfold nameAt namesL
  have : n % 4 = 0 ∨ n % 4 = 1 ∨ n % 4 = 2 ∨ n % 4 = 3 := by omega
  rcases this with h | h | h | h <;> rw [h] <;> decide
theorem NamesLaid.at_ {w : World} {B : Nat} (h : NamesLaid w B) : ∃ ad c, w.cell? ⟨0, 0, none⟩ = some (.slice (some ad) 4 c) ∧ ad.block < B ∧ ∀ n, w.cell? (ad.add (n % 4)) = some (txt (nameAt n)) := by
  obtain ⟨h1, A, c, h2, h3⟩ := h
  obtain ⟨ad, rfl, h4, h5⟩ := h3.2 (by omega)
  refine ⟨ad, c, h2, h4, fun n => h5 (n % 4) _ ?_⟩
  unfold nameAt namesL
  have : n % 4 = 0 ∨ n % 4 = 1 ∨ n % 4 = 2 ∨ n % 4 = 3 := by omega
  rcases this with h | h | h | h <;> rw [h] <;> rfl
/-- A file of the model. -/
def fileV (v : Value) (kept : Nat) : Value := .agg #[v, .int .i64 kept]
/-- The model in block mp, its map in block mb; file k has its bytes in slice V k; all its blocks are of D. -/
structure ModIn (w : World) (D : Nat → Prop) (N mp mb : Nat) (room : Int) (F : Files) (V : FName → Value) : Prop where
  top : w.heap[mp]? = some (.cells #[.map (some mb), .int .i64 room] 29 (0, 0))
  map : MapAt w mb N (fun k => (F k).map fun x => fileV (V k) x.2)
  file : ∀ k bs kept, F k = some (bs, kept) → RowW w 5 (V k) bs.length (bv bs) ∧ ∀ g, (V k).ownBlock = some g → D g
  dm : D mp
  db : D mb
  lt : ∀ g, D g → g < w.heap.size
def ModAt (w : World) (D : Nat → Prop) (N mp mb : Nat) (room : Int) (F : Files) : Prop := ∃ V, ModIn w D N mp mb room F V
section
variable {w w' : World} {D : Nat → Prop} {N mp mb : Nat} {room : Int} {F : Files} {V : FName → Value}
theorem ModIn.mod {G : Nat → Prop} (h : ModIn w D N mp mb room F V) (hm : Mod G w w') (hn : ∀ g, D g → ¬ G g) : ModIn w' D N mp mb room F V where
  top := hm.blk h.top (hn _ h.dm)
  map := h.map.mod hm (hn _ h.db)
  file := fun k bs kept hk => by
    obtain ⟨h1, h2⟩ := h.file k bs kept hk
    exact ⟨h1.mod hm fun g hg => hn g (h2 g hg), h2⟩
  dm := h.dm
  db := h.db
  lt := fun g hg => Nat.lt_of_lt_of_le (h.lt g hg) hm.size
theorem ModAt.mod {G : Nat → Prop} (h : ModAt w D N mp mb room F) (hm : Mod G w w') (hn : ∀ g, D g → ¬ G g) : ModAt w' D N mp mb room F := by
  obtain ⟨V, h⟩ := h
  exact ⟨V, h.mod hm hn⟩
theorem ModIn.below (h : ModIn w D N mp mb room F V) (hb : Below w.heap.size w w') : ModIn w' D N mp mb room F V := h.mod (G := fun _ => False) (Mod.of_below hb) (fun _ _ h => h)
theorem ModAt.below (h : ModAt w D N mp mb room F) (hb : Below w.heap.size w w') : ModAt w' D N mp mb room F := h.mod (G := fun _ => False) (Mod.of_below hb) (fun _ _ h => h)
theorem ModAt.lt (h : ModAt w D N mp mb room F) {g : Nat} (hg : D g) : g < w.heap.size := by obtain ⟨V, h⟩ := h; exact h.lt g hg
theorem ModIn.c0 (h : ModIn w D N mp mb room F V) : w.cell? ⟨mp, 0, none⟩ = some (.map (some mb)) := by rw [cell_of_blk h.top]; rfl
theorem ModIn.c1 (h : ModIn w D N mp mb room F V) : w.cell? ⟨mp, 1, none⟩ = some (.int .i64 room) := by rw [cell_of_blk h.top]; rfl
/-- Kinds of blocks: the map's is no other one's. -/
theorem ModIn.kinds (h : ModIn w D N mp mb room F V) : mp ≠ mb ∧ ∀ k bs kept g, F k = some (bs, kept) → (V k).ownBlock = some g → g ≠ mb ∧ g ≠ mp := by
  obtain ⟨DD, ⟨es, clock, hm, _⟩, _⟩ := h.map
  refine ⟨fun e => ?_, fun k bs kept g hk hg => ?_⟩
  · have := h.top
    rw [e, hm] at this
    cases this
  · have h1 := (h.file k bs kept hk).1
    rcases h1.2 with ⟨h2, _⟩ | ⟨g', cap, cur, h2, h3, _⟩
    · rw [h2] at hg; cases hg
    · rw [h2] at hg
      obtain rfl : g' = g := by simpa [Value.ownBlock] using hg
      refine ⟨fun e => ?_, fun e => ?_⟩
      · rw [e, hm] at h3; cases h3
      · rw [e, h.top] at h3
        injection h3 with h3
        injection h3 with _ h3
        revert h3
        decide
/-- The map is written: file k is told anew, by a slice of its own. -/
theorem ModIn.put {w1 w2 : World} {N' : Nat} (h : ModIn w1 D N mp mb room F V) {k : FName} {bs : List UInt8} {kept : Nat} {v : Value} (hv : RowW w1 5 v bs.length (bv bs)) (hvl : ∀ g, v.ownBlock = some g → g < w1.heap.size)
    (hm : MapAt w2 mb N' (putM (fun k => (F k).map fun x => fileV (V k) x.2) k (fileV v kept))) (hg : w1.grownBy w2 (some mb)) :
    ModIn w2 (fun g => D g ∨ v.ownBlock = some g) N' mp mb room (putF F k (bs, kept)) (fun y => if y = k then v else V y) := by
  obtain ⟨hk1, hk2⟩ := h.kinds
  obtain ⟨DD, ⟨es, clock, hmm, _⟩, _⟩ := h.map
  have hmo : Mod (fun b => b = mb) w1 w2 := (Mod.refl _ w1).grown hg (fun g hg _ => by injection hg with hg; exact hg.symm)
  refine ⟨hmo.blk h.top hk1, hm.congr fun y => ?_, fun y bs' kept' hy => ?_, .inl h.dm, .inl h.db, fun g hg' => ?_⟩
  · unfold putM putF
    by_cases hy : y = k
    · simp [hy]
    · simp [hy]
  · unfold putF at hy
    by_cases hyk : y = k
    · rw [if_pos hyk] at hy
      injection hy with hy
      injection hy with e1 e2
      subst e1
      simp only [hyk, if_true]
      refine ⟨hv.mod hmo (fun g hg9 e => ?_), fun g hg => .inr hg⟩
      subst e
      rcases hv.2 with ⟨h2, _⟩ | ⟨g', cap, cur, h2, h3, _⟩
      · rw [h2] at hg9; cases hg9
      · rw [h2] at hg9
        obtain rfl : g' = g := by simpa [Value.ownBlock] using hg9
        rw [hmm] at h3; cases h3
    · rw [if_neg hyk] at hy
      simp only [hyk, if_false]
      obtain ⟨h1, h2⟩ := h.file y bs' kept' hy
      exact ⟨h1.mod hmo (fun g hg => (hk2 y bs' kept' g hy hg).1), fun g hg => .inl (h2 g hg)⟩
  · rcases hg' with h1 | h1
    · exact Nat.lt_of_lt_of_le (h.lt g h1) hg.size
    · exact Nat.lt_of_lt_of_le (hvl g h1) hg.size
/-- A file is taken out. -/
theorem ModIn.drop {w2 : World} (h : ModIn w D N mp mb room F V) (k : FName) (hm : MapAt w2 mb N (delM (fun k => (F k).map fun x => fileV (V k) x.2) k)) (hg : w.grownBy w2 (some mb)) :
    ModIn w2 D N mp mb room (delF_ F k) V := by
  obtain ⟨hk1, hk2⟩ := h.kinds
  have hmo : Mod (fun b => b = mb) w w2 := (Mod.refl _ w).grown hg (fun g hg _ => by injection hg with hg; exact hg.symm)
  refine ⟨hmo.blk h.top hk1, hm.congr fun y => ?_, fun y bs' kept' hy => ?_, h.dm, h.db, fun g hg' => Nat.lt_of_lt_of_le (h.lt g hg') hg.size⟩
  · unfold delM delF_
    by_cases hy : y = k
    · simp [hy]
    · simp [hy]
  · unfold delF_ at hy
    split at hy
    · cases hy
    · obtain ⟨h1, h2⟩ := h.file y bs' kept' hy
      exact ⟨h1.mod hmo (fun g hg => (hk2 y bs' kept' g hy hg).1), h2⟩
end
theorem reads_blk {w : World} {g n : Nat} {t : TypeId} {fr : Nat × Nat} {cs : Array Value} (hg : w.heap[g]? = some (.cells cs t fr)) (hn : n = cs.size) : Reads w w.heap.size 1 (some ⟨g, 0, none⟩) n cs.toList :=
  ⟨by simp [hn], fun _ => ⟨_, rfl, lt_of_heap hg, fun j u hu => by
    rw [show (⟨g, 0, none⟩ : Addr).add j = ⟨g, j, none⟩ by unfold Addr.add; split <;> simp_all]
    rw [cell_of_row w g j cs t fr hg]
    simpa using hu⟩⟩
theorem owns_modv4 {w w' : World} {base e size n : Nat} {v : Value} {xs : List Value} {F : Nat → Prop} (h : w.ownsRow base e size v n xs) (hm : Mod F w w') (hn : ∀ g, v.ownBlock = some g → ¬ F g) : w'.ownsRow base e size v n xs := by
  refine ⟨h.1, ?_⟩
  rcases h.2 with h2 | ⟨g, cap, cur, h2, h3, h4, h5⟩
  · exact .inl h2
  · exact .inr ⟨g, cap, cur, h2, h3, hm.blk h4 (hn g (by rw [h2]; rfl)), h5⟩
theorem reads_pre4 {w : World} {B n k : Nat} {A : Option Addr} {bs : List UInt8} (h : Reads w B 1 A n (bv bs)) (hk : k ≤ n) : Reads w B 1 A k (bv (bs.take k)) := by
  have hl := h.1
  rw [bv_length] at hl
  refine ⟨by rw [bv_length, List.length_take]; omega, fun hn => ?_⟩
  obtain ⟨ad, h1, h2, h3⟩ := h.2 (by omega)
  refine ⟨ad, h1, h2, fun j u hj => h3 j u ?_⟩
  rw [bv_take, List.getElem?_take] at hj
  split at hj
  · exact hj
  · cases hj
/-- A file's zero value. -/
theorem zeroF (w : World) : (zeroValue 43).run Tryd.prog w = .ok (fileV (.slice none 0 0) 0) w := by kernel_rfl
set_option maxHeartbeats 2000000 in
set_option maxRecDepth 100000 in
theorem usedM (D : Nat → Prop) (N mp mb t : Nat) (room : Int) (F : Files) (w : World) (h : ModAt w D N mp mb room F) (ht : Total F t) (hb : t ≤ 1000000000) :
    Calls Tryd.prog 12 #[.pointer (some ⟨mp, 0, none⟩)] w fun e w' => e = .returned (.int .i64 t) ∧ Below w.heap.size w w' := by
  obtain ⟨V, h⟩ := h
  have hm := h.map
  have c0 := h.c0
  have hD := Lib.hid h
  have hM := Lib.hid hm
  have hT := Lib.hid ht
  clear hm ht h
  go_enter Tryd.func12, Tryd.ntmps12
  go_wp2_with (at_range; (refine wpList_range_map rfl _ 27 rfl 43 Tryd.underlying27 mb N _ rfl hM.out ?_; intro w1 cnt hr1 hg1 hz1))
  have hb1 : Below w.heap.size w w1 := (Below.refl _ _).grown hg1 (Nat.le_refl _) (fun j hj => by cases hj)
  have HZ1 := Lib.hid hz1
  clear hz1 hg1
  go_frame
  go_loopw [3, 5, 11] (fun s _ _ wr => ∃ (done : List Txt) (cnt : Nat), s = .int .i64 (sumF F done) ∧ RangeAt wr mb w.heap.size N (fun k => (F k).map fun x => fileV (V k) x.2) done cnt ∧ Below w.heap.size w wr) (fun _ _ _ wr => wr.rangeLeft mb w.heap.size)
  case atStart => exact ⟨[], cnt, rfl, hr1, hb1⟩
  case round =>
    obtain ⟨done, cnt', rfl, hr, hb⟩ := hrel
    have hle := hr.left_eq
    have HLE := Lib.hid hle
    have HR := Lib.hid hr
    clear hle hr hr1 hb1
    go_wp2_with (at_next; (refine wpList_next_map rfl _ rfl mb w.heap.size N _ done cnt' rfl HR.out ?_ ?_))
    · intro hall
      have hdone : sumF F done = t := by
        obtain ⟨_, _, _, _, _, h4, h5⟩ := HR.out
        exact hT.out.of_done h4 (fun k hk => by have := h5 k hk; simpa using this) hall
      have HD := Lib.hid hdone
      clear hdone
      go_wp2_with (fail)
      go_ret
      exact ⟨by rw [← HD.out]; rfl, hb⟩
    · intro k v w' cnt2 bs kept hF hv hnd hkl hr2 hlt hg2 hz2 hen
      subst hv
      have hb2 : Below w.heap.size w w' := hb.grown hg2 hb.size (fun j hj => by injection hj with hj; omega)
      obtain ⟨f2, f3⟩ := hD.out.file k bs kept hF
      obtain ⟨A, c, hV, hc⟩ := f2.form
      simp only [hV, fileV] at hen
      have hsum : sumF F (k :: done) ≤ t := by
        obtain ⟨_, _, _, _, _, h4, h5⟩ := hr2
        exact hT.out.part h4 (fun k hk => by have := h5 k hk; simpa using this)
      have hsc := sumF_cons F k done
      have hlk : lenF F k = bs.length := by simp [lenF, hF]
      have hsc' : sumF F (k :: done) = sumF F done + bs.length := by rw [hsc, hlk]; omega
      have hbound : sumF F done + bs.length ≤ 1000000000 := by omega
      have HS := Lib.hid hsc'
      have HR2 := Lib.hid hr2
      have hs2 := hb2.size
      clear hsc hlk hsc' hr2 f2 f3 hV hF hz2 hnd hsum HR c0
      generalize sumF F done = sd at *
      go_wp2_with (fail)
      have hr3 := HR2.out.kept (World.grownBy_alloc w' (.cells #[.slice A bs.length c, .int .i64 (kept : Int)] 43 (0, 0)) none) (by simp) (by simp)
      refine ⟨⟨k :: done, cnt2, by rw [HS.out]; go_num, hr3, hb2.alloc hs2 _⟩, ?_⟩
      rw [hr3.left_eq, HLE.out]
      exact hlt
end Go.Proofs.YtfccoiofpmhbdaaDoor
