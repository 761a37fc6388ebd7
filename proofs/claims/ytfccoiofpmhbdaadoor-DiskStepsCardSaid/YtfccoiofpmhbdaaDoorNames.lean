/- Disk.Names: the files' names, rising. Condition: not too many files. -/
import Derived.Test.YtfccoiofpmhbdaaDoorDisk4
import Derived.Test.YtfccoiofpmhbdaaDoorIter
import Derived.Sort.KeysCollected
namespace Go.Proofs.YtfccoiofpmhbdaaDoor
open Go Go.Proofs Go.RowKit Go.Maps Go.WideElems Go.Sort

/-- Those of which S, rising. -/
def NamesAre (S : Txt → Bool) (L : List Txt) : Prop := ∃ ss : List Txt, ss.Nodup ∧ (∀ k, k ∈ ss ↔ S k = true) ∧ L = ss.mergeSort leB
theorem nodup_perm {ss ss' : List Txt} (h1 : ss.Nodup) (h2 : ss'.Nodup) (h : ∀ k, k ∈ ss ↔ k ∈ ss') : ss.Perm ss' := (List.perm_ext_iff_of_nodup h1 h2).2 h
theorem NamesAre.unique {S S' : Txt → Bool} {L L' : List Txt} (h : NamesAre S L) (h' : NamesAre S' L') (hS : ∀ k, S k = S' k) : L = L' := by
  obtain ⟨ss, h1, h2, rfl⟩ := h
  obtain ⟨ss', h1', h2', rfl⟩ := h'
  exact mergeSort_of_perm (nodup_perm h1 h1' fun k => by rw [h2, h2', hS])
theorem NamesAre.nodup {S : Txt → Bool} {L : List Txt} (h : NamesAre S L) : L.Nodup := by
  obtain ⟨ss, h1, h2, rfl⟩ := h
  exact (List.mergeSort_perm ss leB).nodup_iff.2 h1
theorem NamesAre.mem {S : Txt → Bool} {L : List Txt} (h : NamesAre S L) (k : Txt) : k ∈ L ↔ S k = true := by
  obtain ⟨ss, h1, h2, rfl⟩ := h
  rw [(List.mergeSort_perm ss leB).mem_iff, h2]
theorem MapAt.klen {w : World} {b n : Nat} {f : Txt → Option Value} (h : MapAt w b n f) {k : Txt} {v : Value} (hk : f k = some v) : k.length ≤ maxLen := by
  obtain ⟨D, ⟨es, clock, hb, F, hs, rfl⟩, h2⟩ := h
  have h3 := h2 k
  rw [hk] at h3
  unfold lookD DataW.atKey at h3
  simp only at h3
  cases hf : ((es.toList.map (rg Tryd.prog 9 heldR)).foldr DataW.insert []).find? (fun p => p.1.sameKey (.string k)) with
  | none => rw [hf] at h3; cases h3
  | some p =>
    have hm := List.mem_of_find?_eq_some hf
    have hs := List.find?_some hf
    obtain ⟨x, hx, rfl⟩ := List.mem_map.1 (mem_sorted.1 hm)
    obtain ⟨y, hy⟩ := F.reads x hx
    have hk1 := rd_key hy
    obtain ⟨k', _, h5, h6⟩ := txt_inv hk1
    have h7 := WideAt.sameKey_eq hs
    rw [rg_of hy, h5] at h7
    injection h7 with h7
    rw [← h7]
    exact h6
theorem strKeys_mem {w : World} {b n : Nat} {D : DataW Value} (h : w.ownsMap Tryd.prog 9 heldR b n D) : (strKeys D).Nodup ∧ ∀ k, k ∈ strKeys D ↔ (lookD D k).isSome = true := by
  obtain ⟨es, he, hp, hk⟩ := h.entries strK
  have hfind := find_held h
  have hstr : ∀ p ∈ es, ∃ k, p.1 = .string k := by
    obtain ⟨es', clock, hb, F, hs, hD⟩ := h
    intro p hp
    rw [he] at hD
    injection hD with hD
    rw [hD] at hp
    obtain ⟨x, hx, rfl⟩ := List.mem_map.1 (mem_sorted.1 hp)
    obtain ⟨y, hy⟩ := F.reads x hx
    obtain ⟨k', _, h5, h6⟩ := txt_inv (rd_key hy)
    exact ⟨k', by rw [rg_of hy, h5]⟩
  subst he
  constructor
  · show (es.map fun p => strOf p.1).Nodup
    rw [List.Nodup, List.pairwise_map]
    refine hp.imp_of_mem ?_
    intro p q hp' hq' hne e
    obtain ⟨k, hk⟩ := hstr p hp'
    obtain ⟨k', hk'⟩ := hstr q hq'
    rw [hk, hk'] at e
    exact hne (by rw [hk, hk', show k = k' from e])
  · intro k
    show k ∈ (es.map fun p => strOf p.1) ↔ _
    rw [List.mem_map]
    rcases hfind k with ⟨h1, h2, _⟩ | ⟨v, h1, h2, _⟩
    · rw [h1]
      constructor
      · rintro ⟨p, hp', hpk⟩
        obtain ⟨k', hk'⟩ := hstr p hp'
        rw [hk'] at hpk
        have e : k' = k := hpk
        subst e
        have : has (.map es) (.string k') = true := List.any_eq_true.2 ⟨p, hp', by rw [hk']; exact WideAt.sameKey_self (show WideAt.IsKeyLit (.string _) from trivial)⟩
        rw [h2] at this
        cases this
      · intro h; cases h
    · rw [h1]
      refine ⟨fun _ => rfl, fun _ => ?_⟩
      obtain ⟨p, hp', hs⟩ := List.any_eq_true.1 h2
      exact ⟨p, hp', by rw [WideAt.sameKey_eq hs]; rfl⟩
/-- What Names answers. -/
def RetNames (w : World) (S : Txt → Bool) (e : Ending) (w' : World) : Prop := ∃ v L A c, NamesAre S L ∧ L.length ≤ 1000000000 ∧ v = .slice A L.length c ∧ e = .returned v ∧ w'.ownsRow w.heap.size 9 1 v L.length (L.map txt) ∧ Below w.heap.size w w'
theorem encStr_txt (L : List Txt) : L.map encStr = L.map txt := rfl
set_option maxHeartbeats 2000000 in
set_option maxRecDepth 100000 in
theorem namesD (C : Nat → Prop) (N a pw : Nat) (room : Int) (F : Files) (w : World) (h : DiskAt w C N a pw room F) (hN : N ≤ 1000000000) :
    Calls Tryd.prog 31 #[.pointer (some ⟨a, 0, none⟩)] w (RetNames w (fun k => (F k).isSome)) := by
  obtain ⟨mb, P, V, h⟩ := h
  have c1 : w.cell? ⟨a, 1, none⟩ = some (.map (some mb)) := by rw [cell_of_blk h.disk 1]; rfl
  obtain ⟨D, h1, h2⟩ := h.map
  have hsz := h1.size_le
  have HM := Lib.hid h1
  have H2 := Lib.hid h2
  clear h h1 h2
  go_enter Tryd.func31, Tryd.ntmps31
  go_wp2_with (fail)
  refine (callsIn_wide.1 (Tryd.maps_Keys_43 _ _)).mono ?_
  rintro e w1 ⟨rfl, rfl⟩
  go_wp2_with (fail)
  refine (callsIn_wide.1 (Tryd.slices_Sorted_keys_29_43 mb N D heldR w HM.out (by unfold maxLen; omega) (by omega))).mono ?_
  rintro e w2 ⟨v, ss, rfl, hS, hrow, hnil, hb⟩
  have HS := Lib.hid hS
  have HRow := Lib.hid hrow
  clear hS hrow hnil
  go_wp2_with (fail)
  go_ret
  obtain ⟨k1, k2⟩ := strKeys_mem HM.out
  have hlen : ss.length = (ss.mergeSort leB).length := by rw [List.length_mergeSort]
  have hrow : w2.ownsRow w.heap.size 9 1 v (ss.mergeSort leB).length ((ss.mergeSort leB).map txt) := owns_lower (by rw [← hlen]; exact HRow.out) (by simp)
  obtain ⟨A, c, hv, _⟩ := owns_form hrow
  refine ⟨v, ss.mergeSort leB, A, c, ⟨ss, HS.out.nodup_iff.2 k1, fun k => ?_, rfl⟩, ?_, hv, rfl, hrow, ((Below.refl _ _).alloc (Nat.le_refl _) _).trans (hb.mono (by simp))⟩
  · rw [HS.out.mem_iff, k2, H2.out, Option.isSome_map]
  · rw [← hlen, HS.out.length_eq]
    have e : (strKeys D).length = Maps.size D := by
      obtain ⟨es, he, _⟩ := HM.out.entries strK
      rw [he]
      simp [strKeys, Maps.size]
    omega
end Go.Proofs.YtfccoiofpmhbdaaDoor
