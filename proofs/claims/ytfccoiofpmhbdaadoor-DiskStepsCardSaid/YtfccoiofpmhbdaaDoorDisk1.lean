/- A disk in memory: its blocks, its files; what keeps it, what turns it. No condition. -/
import Derived.Test.YtfccoiofpmhbdaaDoorMap
import Derived.Test.YtfccoiofpmhbdaaDoorFiles
namespace Go.Proofs.YtfccoiofpmhbdaaDoor
open Go Go.RowKit

def byteV (b : UInt8) : Value := .int .u8 b.toNat
def bv (bs : List UInt8) : List Value := bs.map byteV
theorem bv_length (bs : List UInt8) : (bv bs).length = bs.length := by simp [bv]
theorem bv_append (a b : List UInt8) : bv (a ++ b) = bv a ++ bv b := by simp [bv]
theorem bv_take (a : List UInt8) (n : Nat) : bv (a.take n) = (bv a).take n := by simp [bv, List.map_take]
theorem bv_one (bs : List UInt8) : ∀ u ∈ bv bs, u.oneCell' = true := by
  intro u hu
  obtain ⟨b, _, rfl⟩ := List.mem_map.1 hu
  rfl
theorem bv_get {bs : List UInt8} {j : Nat} {b : UInt8} (h : bs[j]? = some b) : (bv bs)[j]? = some (byteV b) := by simp [bv, h]
theorem byteV_inj {a b : UInt8} (h : byteV a = byteV b) : a = b := by
  unfold byteV at h
  injection h with _ h
  exact UInt8.toNat_inj.1 (by omega)
theorem bv_inj {a b : List UInt8} (h : bv a = bv b) : a = b := by
  induction a generalizing b with
  | nil => cases b with
    | nil => rfl
    | cons y r => cases h
  | cons x l ih => cases b with
    | nil => cases h
    | cons y r =>
      simp only [bv, List.map_cons, List.cons.injEq] at h
      rw [byteV_inj h.1, ih h.2]

/-- A disk in block a, its map in block mb: file k lies in block P k, its bytes in slice V k; all its blocks are of C. -/
structure DiskIn (w : World) (C : Nat → Prop) (N a pw mb : Nat) (room : Int) (F : Files) (P : FName → Nat) (V : FName → Value) : Prop where
  disk : w.heap[a]? = some (.cells #[.pointer (some ⟨pw, 0, none⟩), .map (some mb), .int .i64 room] 71 (0, 0))
  map : MapAt w mb N (fun k => (F k).map fun _ => .pointer (some ⟨P k, 0, none⟩))
  file : ∀ k bs kept, F k = some (bs, kept) → w.heap[P k]? = some (.cells #[V k, .int .i64 kept] 78 (0, 0)) ∧ RowW w 5 (V k) bs.length (bv bs) ∧ C (P k) ∧ ∀ g, (V k).ownBlock = some g → C g
  apart : ∀ k k', (F k).isSome = true → (F k').isSome = true → k ≠ k' → P k ≠ P k' ∧ ∀ g, (V k).ownBlock = some g → (V k').ownBlock ≠ some g
  ca : C a
  cm : C mb
  lt : ∀ b, C b → b < w.heap.size
def DiskAt (w : World) (C : Nat → Prop) (N a pw : Nat) (room : Int) (F : Files) : Prop := ∃ mb P V, DiskIn w C N a pw mb room F P V
section
variable {w w' : World} {C : Nat → Prop} {N a pw mb : Nat} {room : Int} {F : Files} {P : FName → Nat} {V : FName → Value}
theorem DiskIn.mod {G : Nat → Prop} (h : DiskIn w C N a pw mb room F P V) (hm : Mod G w w') (hn : ∀ b, C b → ¬ G b) : DiskIn w' C N a pw mb room F P V where
  disk := hm.blk h.disk (hn _ h.ca)
  map := h.map.mod hm (hn _ h.cm)
  file := fun k bs kept hk => by
    obtain ⟨h1, h2, h3, h4⟩ := h.file k bs kept hk
    exact ⟨hm.blk h1 (hn _ h3), h2.mod hm fun g hg => hn g (h4 g hg), h3, h4⟩
  apart := h.apart
  ca := h.ca
  cm := h.cm
  lt := fun b hb => Nat.lt_of_lt_of_le (h.lt b hb) hm.size
theorem DiskAt.mod {G : Nat → Prop} (h : DiskAt w C N a pw room F) (hm : Mod G w w') (hn : ∀ b, C b → ¬ G b) : DiskAt w' C N a pw room F := by
  obtain ⟨mb, P, V, h⟩ := h
  exact ⟨mb, P, V, h.mod hm hn⟩
theorem DiskAt.below (h : DiskAt w C N a pw room F) (hb : Below w.heap.size w w') : DiskAt w' C N a pw room F := h.mod (G := fun _ => False) (Mod.of_below hb) (fun _ _ h => h)
theorem DiskAt.lt (h : DiskAt w C N a pw room F) {b : Nat} (hb : C b) : b < w.heap.size := by obtain ⟨mb, P, V, h⟩ := h; exact h.lt b hb
theorem DiskAt.ca (h : DiskAt w C N a pw room F) : C a := by obtain ⟨mb, P, V, h⟩ := h; exact h.ca
/-- Kinds of blocks: no two of unlike kind are one. -/
theorem DiskIn.kinds (h : DiskIn w C N a pw mb room F P V) {k : FName} {bs : List UInt8} {kept : Nat} (hk : F k = some (bs, kept)) : P k ≠ a ∧ P k ≠ mb ∧ a ≠ mb ∧ (∀ g, (V k).ownBlock = some g → g ≠ a ∧ g ≠ mb ∧ g ≠ P k) := by
  obtain ⟨h1, h2, h3, h4⟩ := h.file k bs kept hk
  have hd := h.disk
  obtain ⟨D, ⟨es, clock, hm, _⟩, _⟩ := h.map
  refine ⟨fun e => ?_, fun e => ?_, fun e => ?_, fun g hg => ⟨fun e => ?_, fun e => ?_, fun e => ?_⟩⟩
  · rw [e, hd] at h1; injection h1 with h1; injection h1 with _ h1; revert h1; decide
  · rw [e, hm] at h1; cases h1
  · rw [e, hm] at hd; cases hd
  all_goals
    rcases h2.2 with ⟨h5, _⟩ | ⟨g', cap, cur, h5, h6, _⟩
    · rw [h5] at hg; cases hg
    · rw [h5] at hg
      obtain rfl : g' = g := by simpa [Value.ownBlock] using hg
      subst e
      first
        | (rw [hd] at h6; injection h6 with h6; injection h6 with _ h6; revert h6; decide)
        | (rw [hm] at h6; cases h6)
        | (rw [h1] at h6; injection h6 with h6; injection h6 with _ h6; revert h6; decide)
/-- How many bytes are kept is written anew. -/
theorem DiskIn.setKept (h : DiskIn w C N a pw mb room F P V) {k : FName} {bs : List UInt8} {kept : Nat} (hk : F k = some (bs, kept)) (kept' : Nat) :
    DiskIn (w.setCell ⟨P k, 1, none⟩ (.int .i64 kept')) C N a pw mb room (putF F k (bs, kept')) P V := by
  obtain ⟨k1, k2, k3, k4⟩ := h.kinds hk
  obtain ⟨f1, f2, f3, f4⟩ := h.file k bs kept hk
  refine ⟨blk_set_far h.disk (Ne.symm k1) _, (h.map.set_far (fun e => k2 e.symm) _).congr fun y => ?_, fun y bs' kept'' hy => ?_, fun y y' hy hy' hne => ?_, h.ca, h.cm, fun b hb => by simpa using h.lt b hb⟩
  · by_cases hyk : y = k
    · subst hyk; rw [putF_same, hk]; rfl
    · rw [putF_other F _ hyk]
  · by_cases hyk : y = k
    · subst hyk
      rw [putF_same] at hy
      obtain ⟨rfl, rfl⟩ := Prod.mk.inj (Option.some.inj hy)
      exact ⟨by simpa using blk_set f1 1 (.int .i64 kept'), f2.set_far (fun e => (k4 _ e).2.2 rfl) _, f3, f4⟩
    · rw [putF_other F _ hyk] at hy
      obtain ⟨g1, g2, g3, g4⟩ := h.file y bs' kept'' hy
      have hap := h.apart y k (by rw [hy]; rfl) (by rw [hk]; rfl) hyk
      refine ⟨blk_set_far g1 (fun e => hap.1 e) _, g2.set_far (fun e => ?_) _, g3, g4⟩
      rcases g2.2 with ⟨h5, _⟩ | ⟨g', cap, cur, h5, h6, _⟩
      · rw [h5] at e; cases e
      · rw [h5] at e
        obtain rfl : g' = P k := by simpa [Value.ownBlock] using e
        rw [f1] at h6; injection h6 with h6; injection h6 with _ h6; revert h6; decide
  · have e1 : ∀ z, (putF F k (bs, kept') z).isSome = true → (F z).isSome = true := fun z hz => by
      by_cases hzk : z = k
      · subst hzk; rw [hk]; rfl
      · rwa [putF_other F _ hzk] at hz
    exact h.apart y y' (e1 y hy) (e1 y' hy') hne
def updP (P : FName → Nat) (k : FName) (p : Nat) : FName → Nat := fun y => if y = k then p else P y
def updV (V : FName → Value) (k : FName) (v : Value) : FName → Value := fun y => if y = k then v else V y
/-- A file's bytes are written anew: its slice lies in its old block, in none, or in a new one. -/
theorem DiskIn.setData (h : DiskIn w C N a pw mb room F P V) {k : FName} {bs bs' : List UInt8} {kept : Nat} (hk : F k = some (bs, kept)) {w3 : World} (hm : Mod (fun b => (V k).ownBlock = some b) w w3) {v' : Value} (hv : RowW w3 5 v' bs'.length (bv bs'))
    (hw : ∀ g, v'.ownBlock = some g → (V k).ownBlock = some g ∨ ∀ y bs'' kept'', F y = some (bs'', kept'') → (V y).ownBlock ≠ some g) :
    DiskIn (w3.setCell ⟨P k, 0, none⟩ v') (fun b => C b ∨ v'.ownBlock = some b) N a pw mb room (putF F k (bs', kept)) P (updV V k v') := by
  obtain ⟨k1, k2, k3, k4⟩ := h.kinds hk
  obtain ⟨f1, f2, f3, f4⟩ := h.file k bs kept hk
  have hnP : ∀ y bs'' kept'', F y = some (bs'', kept'') → ¬ (V k).ownBlock = some (P y) := fun y bs'' kept'' hy e => by
    obtain ⟨g1, _⟩ := h.file y bs'' kept'' hy
    rcases f2.2 with ⟨h5, _⟩ | ⟨g', cap, cur, h5, h6, _⟩
    · rw [h5] at e; cases e
    · rw [h5] at e
      obtain rfl : g' = P y := by simpa [Value.ownBlock] using e
      rw [g1] at h6; injection h6 with h6; injection h6 with _ h6; revert h6; decide
  have hvP : ∀ y bs'' kept'', F y = some (bs'', kept'') → v'.ownBlock ≠ some (P y) := fun y bs'' kept'' hy e => by
    obtain ⟨g1, _⟩ := h.file y bs'' kept'' hy
    have g1 := hm.blk g1 (hnP y bs'' kept'' hy)
    rcases hv.2 with ⟨h5, _⟩ | ⟨g', cap, cur, h5, h6, _⟩
    · rw [h5] at e; cases e
    · rw [h5] at e
      obtain rfl : g' = P y := by simpa [Value.ownBlock] using e
      rw [g1] at h6; injection h6 with h6; injection h6 with _ h6; revert h6; decide
  refine ⟨blk_set_far (hm.blk h.disk (fun e => (k4 _ e).1 rfl)) (Ne.symm k1) _, ((h.map.mod hm (fun e => (k4 _ e).2.1 rfl)).set_far (fun e => k2 e.symm) _).congr fun y => ?_, fun y bs'' kept'' hy => ?_, fun y y' hy hy' hne => ?_, .inl h.ca, .inl h.cm, fun b hb => ?_⟩
  · by_cases hyk : y = k
    · subst hyk; rw [putF_same, hk]; rfl
    · rw [putF_other F _ hyk]
  · by_cases hyk : y = k
    · subst hyk
      rw [putF_same] at hy
      obtain ⟨rfl, rfl⟩ := Prod.mk.inj (Option.some.inj hy)
      unfold updV
      rw [if_pos rfl]
      exact ⟨by simpa using blk_set (hm.blk f1 (hnP y bs kept hk)) 0 v', hv.set_far (hvP y bs kept hk) _, .inl f3, fun g hg => .inr hg⟩
    · rw [putF_other F _ hyk] at hy
      obtain ⟨g1, g2, g3, g4⟩ := h.file y bs'' kept'' hy
      have hap := h.apart y k (by rw [hy]; rfl) (by rw [hk]; rfl) hyk
      unfold updV
      rw [if_neg hyk]
      refine ⟨blk_set_far (hm.blk g1 (hnP y bs'' kept'' hy)) (fun e => hap.1 e) _, (g2.mod hm (fun g hg e => hap.2 g hg e)).set_far (fun e => ?_) _, .inl g3, fun g hg => .inl (g4 g hg)⟩
      rcases g2.2 with ⟨h5, _⟩ | ⟨g', cap, cur, h5, h6, _⟩
      · rw [h5] at e; cases e
      · rw [h5] at e
        obtain rfl : g' = P k := by simpa [Value.ownBlock] using e
        rw [f1] at h6; injection h6 with h6; injection h6 with _ h6; revert h6; decide
  · have e1 : ∀ z, (putF F k (bs', kept) z).isSome = true → (F z).isSome = true := fun z hz => by
      by_cases hzk : z = k
      · subst hzk; rw [hk]; rfl
      · rwa [putF_other F _ hzk] at hz
    have hs := e1 y hy
    have hs' := e1 y' hy'
    have hap := h.apart y y' hs hs' hne
    refine ⟨hap.1, fun g hg => ?_⟩
    unfold updV at hg ⊢
    by_cases hyk : y = k
    · subst hyk
      rw [if_pos rfl] at hg
      rw [if_neg (Ne.symm hne)]
      obtain ⟨⟨b2, k2⟩, hF⟩ := Option.isSome_iff_exists.1 hs'
      rcases hw g hg with h1 | h1
      · exact hap.2 g h1
      · exact h1 y' b2 k2 hF
    · rw [if_neg hyk] at hg
      by_cases hyk' : y' = k
      · subst hyk'
        rw [if_pos rfl]
        intro hg'
        obtain ⟨⟨b2, k2⟩, hF⟩ := Option.isSome_iff_exists.1 hs
        rcases hw g hg' with h1 | h1
        · exact hap.2 g hg h1
        · exact h1 y b2 k2 hF hg
      · rw [if_neg hyk']
        exact hap.2 g hg
  · rcases hb with hb | hb
    · have := h.lt b hb
      have := hm.size
      simp
      omega
    · simpa using hv.lt hb
/-- A new file without bytes. -/
theorem DiskIn.fresh (h : DiskIn w C N a pw mb room F P V) {k : FName} (hk : F k = none) {w2 : World} (p : Nat) (hp : w.heap[p]? = some (.cells #[.slice none 0 0, .int .i64 0] 78 (0, 0))) (hnp : ¬ C p)
    (hm : MapAt w2 mb (N + 1) (putM (fun k => (F k).map fun _ => .pointer (some ⟨P k, 0, none⟩)) k (.pointer (some ⟨p, 0, none⟩)))) (hg : w.grownBy w2 (some mb)) :
    DiskIn w2 (fun b => C b ∨ b = p) (N + 1) a pw mb room (putF F k ([], 0)) (updP P k p) (updV V k (.slice none 0 0)) := by
  have hmod : Mod (· = mb) w w2 := (Mod.refl _ _).grown hg fun g hg _ => by injection hg with hg; exact hg.symm
  have hpm : p ≠ mb := fun e => by
    obtain ⟨D, ⟨es, clock, hmm, _⟩, _⟩ := h.map
    rw [e, hmm] at hp; cases hp
  have ham : a ≠ mb := fun e => by
    obtain ⟨D, ⟨es, clock, hmm, _⟩, _⟩ := h.map
    have := h.disk
    rw [e, hmm] at this; cases this
  refine ⟨hmod.blk h.disk ham, hm.congr fun y => ?_, fun y bs' kept' hy => ?_, fun y y' hy hy' hne => ?_, .inl h.ca, .inl h.cm, fun b hb => ?_⟩
  · unfold putM updP
    by_cases hyk : y = k
    · subst hyk; rw [putF_same, if_pos rfl]; simp
    · rw [putF_other F _ hyk, if_neg hyk, if_neg hyk]
  · unfold updP updV
    by_cases hyk : y = k
    · subst hyk
      rw [putF_same] at hy
      obtain ⟨rfl, rfl⟩ := Prod.mk.inj (Option.some.inj hy)
      rw [if_pos rfl, if_pos rfl]
      exact ⟨hmod.blk hp hpm, RowW.nil _ _, .inr rfl, fun g hg => by cases hg⟩
    · rw [putF_other F _ hyk] at hy
      obtain ⟨g1, g2, g3, g4⟩ := h.file y bs' kept' hy
      obtain ⟨q1, q2, q3, q4⟩ := h.kinds hy
      rw [if_neg hyk, if_neg hyk]
      exact ⟨hmod.blk g1 q2, g2.mod hmod fun g hg => (q4 g hg).2.1, .inl g3, fun g hg => .inl (g4 g hg)⟩
  · unfold updP updV
    by_cases hyk : y = k
    · subst hyk
      have hy'k : y' ≠ y := Ne.symm hne
      rw [putF_other F _ hy'k] at hy'
      obtain ⟨⟨b2, k2⟩, hF⟩ := Option.isSome_iff_exists.1 hy'
      rw [if_pos rfl, if_neg hy'k, if_pos rfl, if_neg hy'k]
      exact ⟨fun e => hnp (e ▸ (h.file y' b2 k2 hF).2.2.1), fun g hg => by cases hg⟩
    · rw [putF_other F _ hyk] at hy
      by_cases hyk' : y' = k
      · subst hyk'
        obtain ⟨⟨b2, k2⟩, hF⟩ := Option.isSome_iff_exists.1 hy
        rw [if_neg hyk, if_pos rfl, if_neg hyk, if_pos rfl]
        exact ⟨fun e => hnp (e ▸ (h.file y b2 k2 hF).2.2.1), fun g _ hg => by cases hg⟩
      · rw [putF_other F _ hyk'] at hy'
        rw [if_neg hyk, if_neg hyk', if_neg hyk, if_neg hyk']
        exact h.apart y y' hy hy' hne
  · rcases hb with hb | rfl
    · exact Nat.lt_of_lt_of_le (h.lt b hb) hmod.size
    · exact Nat.lt_of_lt_of_le (lt_of_heap hp) hmod.size
/-- A file is there no more. -/
theorem DiskIn.drop (h : DiskIn w C N a pw mb room F P V) (k : FName) {w2 : World} (hm : MapAt w2 mb N (delM (fun k => (F k).map fun _ => .pointer (some ⟨P k, 0, none⟩)) k)) (hg : w.grownBy w2 (some mb)) :
    DiskIn w2 C N a pw mb room (delF_ F k) P V := by
  have hmod : Mod (· = mb) w w2 := (Mod.refl _ _).grown hg fun g hg _ => by injection hg with hg; exact hg.symm
  have ham : a ≠ mb := fun e => by
    obtain ⟨D, ⟨es, clock, hmm, _⟩, _⟩ := h.map
    have := h.disk
    rw [e, hmm] at this; cases this
  have e1 : ∀ z x, delF_ F k z = some x → F z = some x := fun z x hz => by
    by_cases hzk : z = k
    · subst hzk; rw [delF_same] at hz; cases hz
    · rwa [delF_other F hzk] at hz
  refine ⟨hmod.blk h.disk ham, hm.congr fun y => ?_, fun y bs' kept' hy => ?_, fun y y' hy hy' hne => ?_, h.ca, h.cm, fun b hb => Nat.lt_of_lt_of_le (h.lt b hb) hmod.size⟩
  · unfold delM
    by_cases hyk : y = k
    · subst hyk; rw [delF_same, if_pos rfl]; rfl
    · rw [delF_other F hyk, if_neg hyk]
  · have hy := e1 y _ hy
    obtain ⟨g1, g2, g3, g4⟩ := h.file y bs' kept' hy
    obtain ⟨q1, q2, q3, q4⟩ := h.kinds hy
    exact ⟨hmod.blk g1 q2, g2.mod hmod fun g hg => (q4 g hg).2.1, g3, g4⟩
  · obtain ⟨x, hx⟩ := Option.isSome_iff_exists.1 hy
    obtain ⟨x', hx'⟩ := Option.isSome_iff_exists.1 hy'
    exact h.apart y y' (by rw [e1 y x hx]; rfl) (by rw [e1 y' x' hx']; rfl) hne
/-- A file that was taken out is put in under another name. -/
theorem DiskIn.back (h : DiskIn w C N a pw mb room F P V) {k : FName} {bs : List UInt8} {kept p : Nat} {v : Value} (hp : w.heap[p]? = some (.cells #[v, .int .i64 kept] 78 (0, 0))) (hv : RowW w 5 v bs.length (bv bs)) (hcp : C p) (hcv : ∀ g, v.ownBlock = some g → C g)
    (hap : ∀ y, (F y).isSome = true → y ≠ k → P y ≠ p ∧ ∀ g, (V y).ownBlock = some g → v.ownBlock ≠ some g) {w2 : World}
    (hm : MapAt w2 mb (N + 1) (putM (fun k => (F k).map fun _ => .pointer (some ⟨P k, 0, none⟩)) k (.pointer (some ⟨p, 0, none⟩)))) (hg : w.grownBy w2 (some mb)) :
    DiskIn w2 C (N + 1) a pw mb room (putF F k (bs, kept)) (updP P k p) (updV V k v) := by
  have hmod : Mod (· = mb) w w2 := (Mod.refl _ _).grown hg fun g hg _ => by injection hg with hg; exact hg.symm
  have hpm : p ≠ mb := fun e => by
    obtain ⟨D, ⟨es, clock, hmm, _⟩, _⟩ := h.map
    rw [e, hmm] at hp; cases hp
  have hvm : ∀ g, v.ownBlock = some g → g ≠ mb := fun g hg e => by
    obtain ⟨D, ⟨es, clock, hmm, _⟩, _⟩ := h.map
    rcases hv.2 with ⟨h5, _⟩ | ⟨g', cap, cur, h5, h6, _⟩
    · rw [h5] at hg; cases hg
    · rw [h5] at hg
      obtain rfl : g' = g := by simpa [Value.ownBlock] using hg
      rw [e, hmm] at h6; cases h6
  have ham : a ≠ mb := fun e => by
    obtain ⟨D, ⟨es, clock, hmm, _⟩, _⟩ := h.map
    have := h.disk
    rw [e, hmm] at this; cases this
  refine ⟨hmod.blk h.disk ham, hm.congr fun y => ?_, fun y bs' kept' hy => ?_, fun y y' hy hy' hne => ?_, h.ca, h.cm, fun b hb => Nat.lt_of_lt_of_le (h.lt b hb) hmod.size⟩
  · unfold putM updP
    by_cases hyk : y = k
    · subst hyk; rw [putF_same, if_pos rfl]; simp
    · rw [putF_other F _ hyk, if_neg hyk, if_neg hyk]
  · unfold updP updV
    by_cases hyk : y = k
    · subst hyk
      rw [putF_same] at hy
      obtain ⟨rfl, rfl⟩ := Prod.mk.inj (Option.some.inj hy)
      rw [if_pos rfl, if_pos rfl]
      exact ⟨hmod.blk hp hpm, hv.mod hmod hvm, hcp, hcv⟩
    · rw [putF_other F _ hyk] at hy
      obtain ⟨g1, g2, g3, g4⟩ := h.file y bs' kept' hy
      obtain ⟨q1, q2, q3, q4⟩ := h.kinds hy
      rw [if_neg hyk, if_neg hyk]
      exact ⟨hmod.blk g1 q2, g2.mod hmod fun g hg => (q4 g hg).2.1, g3, g4⟩
  · unfold updP updV
    by_cases hyk : y = k
    · subst hyk
      have hy'k : y' ≠ y := Ne.symm hne
      rw [putF_other F _ hy'k] at hy'
      obtain ⟨h1, h2⟩ := hap y' hy' hy'k
      rw [if_pos rfl, if_neg hy'k, if_pos rfl, if_neg hy'k]
      exact ⟨Ne.symm h1, fun g hg hg' => h2 g hg' hg⟩
    · rw [putF_other F _ hyk] at hy
      by_cases hyk' : y' = k
      · subst hyk'
        obtain ⟨h1, h2⟩ := hap y hy hyk
        rw [if_neg hyk, if_pos rfl, if_neg hyk, if_pos rfl]
        exact ⟨h1, h2⟩
      · rw [putF_other F _ hyk'] at hy'
        rw [if_neg hyk, if_neg hyk', if_neg hyk, if_neg hyk']
        exact h.apart y y' hy hy' hne
end
end Go.Proofs.YtfccoiofpmhbdaaDoor
