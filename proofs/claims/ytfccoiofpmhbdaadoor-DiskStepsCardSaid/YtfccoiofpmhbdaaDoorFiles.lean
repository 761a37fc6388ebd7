/- Plain words on files: how many bytes all have, whatever the order. No program stands in this text. -/
namespace Go.Proofs.YtfccoiofpmhbdaaDoor
abbrev FName := List UInt8
abbrev Files := FName → Option (List UInt8 × Nat)
def lenF (F : Files) (k : FName) : Nat := match F k with
  | some x => x.1.length
  | none => 0
def sumF (F : Files) (L : List FName) : Nat := (L.map (lenF F)).sum
theorem sumF_cons (F : Files) (k : FName) (L : List FName) : sumF F (k :: L) = lenF F k + sumF F L := by simp [sumF]
theorem sumF_perm (F : Files) {L L' : List FName} (h : L.Perm L') : sumF F L = sumF F L' := (h.map _).sum_nat
theorem sumF_sub (F : Files) : ∀ (L L' : List FName), L.Nodup → (∀ k ∈ L, k ∈ L') → sumF F L ≤ sumF F L' := by
  intro L
  induction L with
  | nil => intro L' _ _; simp [sumF]
  | cons x L ih =>
    intro L' hn hs
    have hx : x ∈ L' := hs x List.mem_cons_self
    have hp := List.perm_cons_erase hx
    rw [sumF_perm F hp, sumF_cons, sumF_cons]
    rw [List.nodup_cons] at hn
    have := ih (L'.erase x) hn.2 (fun k hk => by
      have hkx : k ≠ x := fun e => hn.1 (e ▸ hk)
      exact (List.mem_erase_of_ne hkx).2 (hs k (List.mem_cons_of_mem _ hk)))
    omega
/-- All files have t bytes together. -/
def Total (F : Files) (t : Nat) : Prop := ∃ L : List FName, L.Nodup ∧ (∀ k, k ∈ L ↔ (F k).isSome = true) ∧ t = sumF F L
theorem Total.none_ : Total (fun _ => none) 0 := ⟨[], List.nodup_nil, by simp, rfl⟩
theorem Total.unique {F : Files} {t t' : Nat} (h : Total F t) (h' : Total F t') : t = t' := by
  obtain ⟨L, h1, h2, rfl⟩ := h
  obtain ⟨L', h1', h2', rfl⟩ := h'
  exact Nat.le_antisymm (sumF_sub F L L' h1 fun k hk => (h2' k).2 ((h2 k).1 hk)) (sumF_sub F L' L h1' fun k hk => (h2 k).2 ((h2' k).1 hk))
theorem Total.of_done {F : Files} {t : Nat} {done : List FName} (h : Total F t) (hn : done.Nodup) (hs : ∀ k ∈ done, (F k).isSome = true) (ha : ∀ k, (F k).isSome = true → k ∈ done) : sumF F done = t :=
  Total.unique ⟨done, hn, fun k => ⟨hs k, ha k⟩, rfl⟩ h
theorem Total.part {F : Files} {t : Nat} {done : List FName} (h : Total F t) (hn : done.Nodup) (hs : ∀ k ∈ done, (F k).isSome = true) : sumF F done ≤ t := by
  obtain ⟨L, h1, h2, rfl⟩ := h
  exact sumF_sub F done L hn fun k hk => (h2 k).2 (hs k hk)
theorem Total.one {F : Files} {t : Nat} (h : Total F t) (k : FName) : lenF F k ≤ t := by
  cases hk : F k with
  | none => simp [lenF, hk]
  | some x =>
    have := h.part (done := [k]) (by simp) (by simp [hk])
    simpa [sumF] using this
def putF (F : Files) (k : FName) (x : List UInt8 × Nat) : Files := fun y => if y = k then some x else F y
def delF_ (F : Files) (k : FName) : Files := fun y => if y = k then none else F y
theorem putF_same (F : Files) (k : FName) (x) : putF F k x k = some x := if_pos rfl
theorem putF_other (F : Files) {k y : FName} (x) (h : y ≠ k) : putF F k x y = F y := if_neg h
theorem delF_same (F : Files) (k : FName) : delF_ F k k = none := if_pos rfl
theorem delF_other (F : Files) {k y : FName} (h : y ≠ k) : delF_ F k y = F y := if_neg h
theorem sumF_congr {F G : Files} {L : List FName} (h : ∀ k ∈ L, F k = G k) : sumF F L = sumF G L := by
  unfold sumF
  rw [List.map_congr_left (g := lenF G)]
  intro k hk
  unfold lenF
  rw [h k hk]
theorem Total.del {F : Files} {t : Nat} (h : Total F t) (k : FName) : Total (delF_ F k) (t - lenF F k) := by
  obtain ⟨L, h1, h2, rfl⟩ := h
  by_cases hk : k ∈ L
  · refine ⟨L.erase k, h1.erase k, fun y => ?_, ?_⟩
    · by_cases hy : y = k
      · subst hy
        rw [delF_same]
        simp [h1.mem_erase_iff]
      · rw [List.mem_erase_of_ne hy, h2, delF_other F hy]
    · rw [sumF_perm F (List.perm_cons_erase hk), sumF_cons, Nat.add_sub_cancel_left]
      exact (sumF_congr fun y hy => delF_other F fun e => by subst e; exact ((h1.mem_erase_iff).1 hy).1 rfl).symm
  · have hn : F k = none := by
      cases hF : F k with
      | none => rfl
      | some x => exact absurd ((h2 k).2 (by rw [hF]; rfl)) hk
    refine ⟨L, h1, fun y => ?_, ?_⟩
    · by_cases hy : y = k
      · subst hy
        rw [delF_same]
        simp [hk]
      · rw [h2, delF_other F hy]
    · have : lenF F k = 0 := by simp [lenF, hn]
      rw [this, Nat.sub_zero]
      exact (sumF_congr fun y hy => delF_other F fun e => by subst e; exact hk hy).symm
theorem Total.put {F : Files} {t : Nat} (h : Total F t) (k : FName) (x : List UInt8 × Nat) : Total (putF F k x) (t - lenF F k + x.1.length) := by
  obtain ⟨L, h1, h2, h3⟩ := h.del k
  have hk : k ∉ L := fun hk => by
    have := (h2 k).1 hk
    rw [delF_same] at this
    cases this
  refine ⟨k :: L, List.nodup_cons.2 ⟨hk, h1⟩, fun y => ?_, ?_⟩
  · by_cases hy : y = k
    · subst hy
      rw [putF_same]
      simp
    · rw [List.mem_cons, putF_other F x hy, h2, delF_other F hy]
      simp [hy]
  · rw [sumF_cons, h3]
    have e1 : lenF (putF F k x) k = x.1.length := by simp [lenF, putF_same]
    have e2 : sumF (putF F k x) L = sumF (delF_ F k) L := sumF_congr fun y hy => by
      have hyk : y ≠ k := fun e => hk (e ▸ hy)
      rw [putF_other F x hyk, delF_other F hyk]
    rw [e1, e2, Nat.add_comm]
theorem Total.congr {F G : Files} {t : Nat} (h : Total F t) (hf : ∀ k, F k = G k) : Total G t := by
  obtain rfl : F = G := funext hf
  exact h
end Go.Proofs.YtfccoiofpmhbdaaDoor
