/- XInv2's law once more, for a region with one late operation: a pure one that the tail's first store need not wait for. It is taken as soon as it is ready. No program stands in this text. -/
import Derived.Test.YtendjifhdpeebaaDoorInv2
namespace Go.Proofs.YtendjifhdpeebaaDoor
open Go Go.RowKit

/-- From m on each operation waits for all that stand ahead of it, but perhaps for the late one. -/
def tailL (ops : Array Oper) (m k : Nat) : Bool :=
  (List.range ops.size).all fun i => decide (i < m) || (List.range i).all fun j => decide (j = k) || wait3 ops i j
/-- Apart from all that neither stand ahead of it nor wait for it. -/
def freeL (ops : Array Oper) (k : Nat) : Bool := match ops[k]? with
  | some ok => (List.range ops.size).all fun j => decide (j = k) || wait ops k j || wait ops j k || match ops[j]? with
    | some oj => ok.apart ops oj
    | none => true
  | none => false
theorem freeL_spec {ops : Array Oper} {k j : Nat} {ok oj : Oper} {listed : Array Bool} (h : freeL ops k = true) (hk : ops[k]? = some ok) (hj : ops[j]? = some oj) (hne : j ≠ k) (hun : listed.getD j true = false)
    (hal : ∀ e ∈ ok.after, Region.binds .any e = true → listed.getD e.on false = true) (hno : ∀ e ∈ oj.after, Region.binds .any e = true → e.on ≠ k) : ok.apart ops oj = true := by
  unfold freeL at h
  rw [hk] at h
  simp only [List.all_eq_true, List.mem_range, Bool.or_eq_true, decide_eq_true_eq] at h
  rcases h j (Array.getElem?_eq_some_iff.1 hj).1 with ((h | h) | h) | h
  · exact absurd h hne
  · exfalso
    have := wait_of hk hal h
    rcases Nat.lt_or_ge j listed.size with h' | h'
    · simp [h'] at hun this
      rw [hun] at this
      cases this
    · simp [Array.getElem?_eq_none h'] at this
  · exfalso
    unfold wait at h
    rw [hj] at h
    simp only [Array.any_eq_true', Bool.and_eq_true, decide_eq_true_eq] at h
    obtain ⟨e, he, hb, h⟩ := h
    exact hno e he hb h
  · rw [hj] at h
    exact h
section
variable {P : Program} {ops : Array Oper} {Q : Exit → Act → World → Prop}
/-- The late operation: one value, whatever the world. -/
def LateOk (P : Program) (ops : Array Oper) (m : Nat) (V : Tmp → Value) (A : Tmp → Option (Array Value × TypeId × Option Nat)) (base : Act) (W : World) (i : Nat) : Prop :=
  ∀ (o : Oper) (a : Act), ops[i]? = some o → (∀ s, s ∉ dsts ops m → a.tmps[s]? = base.tmps[s]?) →
    (∀ (p : Nat) (e : Edge) (o' : Oper) (s : Tmp), o.after[p]? = some e → Region.binds .any e = true → ops[e.on]? = some o' → o'.dst = some s → s < base.tmps.size → ∃ v w, a.tmps[s]? = some v ∧ Ok V A W.heap.size s v w) →
    ∃ v, Yields P ops o v a ∧ ∀ s, o.dst = some s → A s = none ∧ v = V s
def LateS (P : Program) (ops : Array Oper) (m : Nat) (V : Tmp → Value) (A : Tmp → Option (Array Value × TypeId × Option Nat)) (base : Act) (W : World) (i : Nat) : Prop :=
  ∀ (o : Oper) (a : Act), ops[i]? = some o → (∀ s, (dsts ops m).contains s = false → a.tmps[s]? = base.tmps[s]?) →
    (∀ s, depB ops o s = true → ∃ v w, a.tmps[s]? = some v ∧ Ok V A W.heap.size s v w) →
    ∃ v, Yields P ops o v a ∧ ∀ s, o.dst = some s → A s = none ∧ v = V s

theorem wpAny_forcedL (hdown : downB ops = true) {m k : Nat} (hkm : k < m) (htail : tailL ops m k = true) :
    ∀ (d j : Nat) (fuel : Nat) (listed : Array Bool) (a : Act) (w : World), j + d = ops.size → m ≤ j → d ≤ fuel → listed.size = ops.size → (∀ i, i < ops.size → (listed.getD i false = true ↔ i < j)) →
      wpOps P ops Q (List.range' j d) a w → wpAny P .any ops Q fuel listed a w := by
  have hr : ∀ (j : Nat) (listed : Array Bool), m ≤ j → listed.size = ops.size → (∀ i, i < ops.size → (listed.getD i false = true ↔ i < j)) → ∀ i ∈ Region.ready .any ops listed, i = j := by
    intro j listed hmj hsz hl i hi
    obtain ⟨h0, o, ho, hall⟩ := mem_ready.1 hi
    have hlt := (Array.getElem?_eq_some_iff.1 ho).1
    have hlt' : i < listed.size := by omega
    have hge : ¬ i < j := by
      intro hc
      have := (hl i hlt).2 hc
      simp [hlt'] at h0 this
      rw [h0] at this
      cases this
    have hle : i ≤ j := by
      rcases Nat.lt_or_ge j i with hji | h
      · exfalso
        have ht := htail
        simp only [tailL, List.all_eq_true, List.mem_range, Bool.or_eq_true, decide_eq_true_eq] at ht
        have h1 := (ht i hlt).resolve_left (by omega)
        have hcl : Closed ops listed := by
          intro x y hx hw
          unfold wait at hw
          split at hw
          · rename_i ox hox
            have hlx := (Array.getElem?_eq_some_iff.1 hox).1
            simp only [Array.any_eq_true', Bool.and_eq_true, decide_eq_true_eq] at hw
            obtain ⟨e, he, hb, rfl⟩ := hw
            have hd := hdown
            simp only [downB, List.all_eq_true, List.mem_range] at hd
            have hd := hd x hlx
            rw [hox] at hd
            simp only [Array.all_eq_true_iff_forall_mem, Bool.or_eq_true, Bool.not_eq_true', decide_eq_true_eq] at hd
            have h2 := (hd e he).resolve_left (by simp [hb])
            have h3 := (hl x hlx).1 hx
            exact (hl e.on (by omega)).2 (by omega)
          · cases hw
        have := wait3_listed hcl ho hall ((h1 j hji).resolve_left (by omega))
        have := (hl j (by omega)).1 this
        omega
      · exact h
    omega
  intro d
  induction d with
  | zero =>
    intro j fuel listed a w hjd hmj hf hsz hl h
    have hnil : Region.ready .any ops listed = [] := by
      rw [List.eq_nil_iff_forall_not_mem]
      intro i hi
      have h1 := hr j listed hmj hsz hl i hi
      obtain ⟨_, o, ho, _⟩ := mem_ready.1 hi
      have := (Array.getElem?_eq_some_iff.1 ho).1
      omega
    have hq : Q .normal a w := by simpa [wpOps] using h
    cases fuel with
    | zero => exact ⟨hnil, hq⟩
    | succ fuel => exact ⟨fun _ => hq, fun i hi => by rw [hnil] at hi; cases hi⟩
  | succ d ih =>
    intro j fuel listed a w hjd hmj hf hsz hl h
    cases fuel with
    | zero => omega
    | succ fuel =>
      have hlt : j < ops.size := by omega
      have hj : ops[j]? = some ops[j] := Array.getElem?_eq_getElem hlt
      have hready : j ∈ Region.ready .any ops listed := by
        rw [mem_ready]
        have hlj : j < listed.size := by omega
        refine ⟨?_, ops[j], hj, fun e he hb => ?_⟩
        · rcases Bool.eq_false_or_eq_true (listed.getD j true) with hc | hc
          · have : listed.getD j false = true := by simpa [hlj] using hc
            have := (hl j hlt).1 this
            omega
          · exact hc
        · have hd := hdown
          simp only [downB, List.all_eq_true, List.mem_range] at hd
          have hd := hd j hlt
          rw [hj] at hd
          simp only [Array.all_eq_true_iff_forall_mem, Bool.or_eq_true, Bool.not_eq_true', decide_eq_true_eq] at hd
          have hlt' := (hd e he).resolve_left (by simp [hb])
          exact (hl e.on (by omega)).2 hlt'
      refine ⟨fun hc => (by rw [hc] at hready; cases hready), fun i hi => ?_⟩
      obtain rfl := hr j listed hmj hsz hl i hi
      rw [List.range'_succ, wpOps_cons] at h
      refine wpOp_mono (fun a' w' h' => ?_) h
      refine ih (i + 1) fuel _ a' w' (by omega) (by omega) (by omega) (by simp [hsz]) (fun k hk => ?_) h'
      by_cases hki : k = i
      · subst hki
        have : k < listed.size := by omega
        simp [this]
      · rw [getD_set_ne false (Ne.symm hki), hl k hk]
        omega

theorem wpAny_invL {m k : Nat} {V : Tmp → Value} {A : Tmp → Option (Array Value × TypeId × Option Nat)} {base : Act} {W : World} (hdown : downB ops = true) (hkm : k < m) (htail : tailL ops m k = true) (hm : m ≤ ops.size)
    (hs : Region.noSelect ops = true) (hfr : freeL ops k = true) (hQ : ∀ c a d v w, Q (.panic c) (a.put d v) w → Q (.panic c) a w)
    (hlate : LateOk P ops m V A base W k)
    (hstep : ∀ i, i < m → StepOk P ops m Q V A base W i)
    (hend : ∀ (U : Tmp → Value) (w : World), Below W.heap.size W w → (∀ s ∈ dsts ops m, s < base.tmps.size → Ok V A W.heap.size s (U s) w) →
      (∀ s ∈ dsts ops m, ∀ s' ∈ dsts ops m, s < base.tmps.size → s' < base.tmps.size → s ≠ s' → A s ≠ none → A s' ≠ none → blkOf (U s) ≠ blkOf (U s')) →
      wpOps P ops Q (List.range' m (ops.size - m)) { tmps := setAll U (dsts ops m) base.tmps, defers := base.defers } w) :
    ∀ (fuel : Nat) (listed : Array Bool) (a : Act) (w : World), listed.size = ops.size → (unl listed ops.size).length ≤ fuel → (∀ i, i < ops.size → listed.getD i false = true → i < m) → Closed ops listed →
      Below W.heap.size W w → Agrees ops m V A W.heap.size base (fun i => listed.getD i false = true) a w → wpAny P .any ops Q fuel listed a w := by
  intro fuel
  induction fuel with
  | zero =>
    intro listed a w hsz hf hlm hcl hG hA
    have hnil : unl listed ops.size = [] := List.length_eq_zero_iff.1 (Nat.le_zero.1 hf)
    have hall : ∀ i, i < ops.size → listed.getD i false = true := by
      intro i hi
      have hl : i < listed.size := by omega
      have hn : i ∉ unl listed ops.size := by rw [hnil]; simp
      simp only [unl, List.mem_filter, List.mem_range, hi, true_and, Bool.not_eq_true', Bool.not_eq_false] at hn
      simpa [hl] using hn
    have hms : m = ops.size := by
      rcases Nat.lt_or_ge m ops.size with h | h
      · have := hlm m h (hall m h); omega
      · omega
    have hA' : Agrees ops m V A W.heap.size base (fun i => i < m) a w := ⟨hA.defers, hA.size, hA.old, fun i o s hi him ho hs hlt => hA.new i o s (hall i (by omega)) him ho hs hlt,
      fun i j o o' s s' hi hj him hjm => hA.inj i j o o' s s' (hall i (by omega)) (hall j (by omega)) him hjm⟩
    obtain ⟨U, rfl, hU, hI⟩ := hA'.all
    exact wpAny_forcedL hdown hkm htail (ops.size - m) m 0 listed _ w (by omega) (Nat.le_refl _) (by omega) hsz (fun i hi => ⟨fun _ => by omega, fun _ => hall i hi⟩) (hend U w hG hU hI)
  | succ fuel ih =>
    intro listed a w hsz hf hlm hcl hG hA
    by_cases hall : ∀ i, i < m → listed.getD i false = true
    · have hA' : Agrees ops m V A W.heap.size base (fun i => i < m) a w := ⟨hA.defers, hA.size, hA.old, fun i o s hi him ho hs hlt => hA.new i o s (hall i him) him ho hs hlt,
        fun i j o o' s s' hi hj him hjm => hA.inj i j o o' s s' (hall i him) (hall j hjm) him hjm⟩
      obtain ⟨U, rfl, hU, hI⟩ := hA'.all
      have hlen : ops.size - m ≤ fuel + 1 := by
        refine Nat.le_trans ?_ hf
        have hsub : (List.range' m (ops.size - m)).Sublist (List.range ops.size) := by
          rw [List.range_eq_range']
          have : List.range' 0 ops.size = List.range' 0 m ++ List.range' m (ops.size - m) := by
            have h1 : ops.size = m + (ops.size - m) := by omega
            conv => lhs; rw [h1]
            have h2 := List.range'_append_1 (s := 0) (m := m) (n := ops.size - m)
            rw [Nat.zero_add] at h2
            exact h2.symm
          rw [this]
          exact List.sublist_append_right _ _
        have hfil := hsub.filter (fun i => !listed.getD i true)
        have hself : (List.range' m (ops.size - m)).filter (fun i => !listed.getD i true) = List.range' m (ops.size - m) := by
          rw [List.filter_eq_self]
          intro i hi
          obtain ⟨h1, h2⟩ := List.mem_range'_1.1 hi
          have hlt : i < ops.size := by omega
          have hl : i < listed.size := by omega
          rcases Bool.eq_false_or_eq_true (listed.getD i true) with hc | hc
          · have : listed.getD i false = true := by simpa [hl] using hc
            have := hlm i hlt this
            omega
          · simp [hc]
        rw [hself] at hfil
        have := hfil.length_le
        simpa [unl] using this
      exact wpAny_forcedL hdown hkm htail (ops.size - m) m (fuel + 1) listed _ w (by omega) (Nat.le_refl _) hlen hsz (fun i hi => ⟨fun h => hlm i hi h, fun h => hall i h⟩) (hend U w hG hU hI)
    · have hcontG : ∀ i, i < m → ∀ o, ops[i]? = some o → listed.getD i true = false → (∀ e ∈ o.after, Region.binds .any e = true → listed.getD e.on false = true) →
          ∀ v w', Below w.heap.size w w' → (∀ s, o.dst = some s → Ok V A W.heap.size s v w') → (∀ s g, o.dst = some s → A s ≠ none → blkOf v = some g → w.heap.size ≤ g) →
          wpAny P .any ops Q fuel (listed.setIfInBounds i true) (a.put o.dst v) w' := by
        intro i him o ho h0 hal
        have hlt := (Array.getElem?_eq_some_iff.1 ho).1
        have hlen : (unl (listed.setIfInBounds i true) ops.size).length ≤ fuel := by
          have := unl_set hlt hsz h0
          omega
        intro v w' hb hv hf'
        refine ih _ _ _ (by simp [hsz]) hlen (fun j hj hjl => ?_) (fun j k hj hw => ?_) (hG.trans (hb.mono hG.size)) ?_
        · by_cases hji : j = i
          · omega
          · rw [getD_set_ne false (Ne.symm hji)] at hjl
            exact hlm j hj hjl
        · have hk : listed.getD k false = true := by
            by_cases hji : j = i
            · subst hji
              exact wait_of ho hal hw
            · rw [getD_set_ne false (Ne.symm hji)] at hj
              exact hcl j k hj hw
          by_cases hki : k = i
          · subst hki
            have : k < listed.size := by omega
            simp [this]
          · rw [getD_set_ne false (Ne.symm hki)]
            exact hk
        · have hp := agrees_put hA him ho hb hv hf'
          have hdone : ∀ j, (listed.setIfInBounds i true).getD j false = true → listed.getD j false = true ∨ j = i := by
            intro j hj
            by_cases hji : j = i
            · exact .inr hji
            · rw [getD_set_ne false (Ne.symm hji)] at hj
              exact .inl hj
          exact ⟨hp.defers, hp.size, hp.old, fun j o' s hj hjm ho' hs hlt' => hp.new j o' s (hdone j hj) hjm ho' hs hlt',
            fun j j' o1 o2 s s' hj hj' => hp.inj j j' o1 o2 s s' (hdone j hj) (hdone j' hj')⟩
      by_cases hkr : k ∈ Region.ready .any ops listed
      · obtain ⟨h0, o, ho, hal⟩ := mem_ready.1 hkr
        have hlt := (Array.getElem?_eq_some_iff.1 ho).1
        obtain ⟨v, hy, hv⟩ := hlate o a ho hA.old (fun p e o' s hp hb ho' hs hlt' => by
          have hd := hdown
          simp only [downB, List.all_eq_true, List.mem_range] at hd
          have hd := hd k hlt
          rw [ho] at hd
          simp only [Array.all_eq_true_iff_forall_mem, Bool.or_eq_true, Bool.not_eq_true', decide_eq_true_eq] at hd
          have hem : e ∈ o.after := by simpa using Array.mem_of_getElem? hp
          have hlt2 := (hd e hem).resolve_left (by simp [hb])
          obtain ⟨v, hv, hok⟩ := hA.new e.on o' s (hal e hem hb) (by omega) ho' hs hlt'
          exact ⟨v, w, hv, hok⟩)
        refine wpAny_first ho (Region.noSelect_spec hs) (fun c a w h => hQ c a _ _ w h) fuel listed a w (fun j oj hj hne hun hno => freeL_spec hfr ho hj hne hun hal hno) hkr hy ?_
        · refine hcontG k hkm o ho h0 hal v w (Below.refl _ _) (fun s hs' => ?_) (fun s g hs' hA' => absurd (hv s hs').1 hA')
          obtain ⟨h1, rfl⟩ := hv s hs'
          simp [Ok, h1]
      have hne : Region.ready .any ops listed ≠ [] ∧ ∀ i ∈ Region.ready .any ops listed, i < m := by
        constructor
        · intro hr
          apply hall
          intro i
          induction i using Nat.strongRecOn with
          | _ i ihi =>
            intro hlt
            rcases Bool.eq_false_or_eq_true (listed.getD i false) with h | h
            · exact h
            · exfalso
              have hlo : i < ops.size := by omega
              have hi : ops[i]? = some ops[i] := Array.getElem?_eq_getElem hlo
              have : i ∈ Region.ready .any ops listed := by
                rw [mem_ready]
                refine ⟨?_, ops[i], hi, fun e he hb => ?_⟩
                · have hl : i < listed.size := by omega
                  simp only [Array.getD_eq_getD_getElem?, Array.getElem?_eq_getElem hl, Option.getD_some] at h ⊢
                  exact h
                · have hd := hdown
                  simp only [downB, List.all_eq_true, List.mem_range] at hd
                  have hd := hd i hlo
                  rw [hi] at hd
                  simp only [Array.all_eq_true_iff_forall_mem, Bool.or_eq_true, Bool.not_eq_true', decide_eq_true_eq] at hd
                  have hlt' := (hd e he).resolve_left (by simp [hb])
                  exact ihi e.on hlt' (by omega)
              rw [hr] at this
              cases this
        · intro i hi
          rcases Nat.lt_or_ge i m with h | h
          · exact h
          · exfalso
            apply hall
            intro j hj
            obtain ⟨_, o, ho, hal⟩ := mem_ready.1 hi
            have hlo := (Array.getElem?_eq_some_iff.1 ho).1
            have ht := htail
            simp only [tailL, List.all_eq_true, List.mem_range, Bool.or_eq_true, decide_eq_true_eq] at ht
            have h1 := (ht i hlo).resolve_left (by omega)
            have hoth : ∀ j, j < m → j ≠ k → listed.getD j false = true := fun j hj hjk => wait3_listed hcl ho hal ((h1 j (by omega)).resolve_left hjk)
            by_cases hjk : j = k
            · subst hjk
              rcases Bool.eq_false_or_eq_true (listed.getD j false) with h2 | h2
              · exact h2
              · exfalso
                apply hkr
                have hlj : j < ops.size := by omega
                have hj' : ops[j]? = some ops[j] := Array.getElem?_eq_getElem hlj
                rw [mem_ready]
                refine ⟨?_, ops[j], hj', fun e he hb => ?_⟩
                · have hl : j < listed.size := by omega
                  simp only [Array.getD_eq_getD_getElem?, Array.getElem?_eq_getElem hl, Option.getD_some] at h2 ⊢
                  exact h2
                · have hd := hdown
                  simp only [downB, List.all_eq_true, List.mem_range] at hd
                  have hd := hd j hlj
                  rw [hj'] at hd
                  simp only [Array.all_eq_true_iff_forall_mem, Bool.or_eq_true, Bool.not_eq_true', decide_eq_true_eq] at hd
                  have hlt' := (hd e he).resolve_left (by simp [hb])
                  exact hoth e.on (by omega) (by omega)
            · exact hoth j hj hjk
      refine ⟨fun hr => absurd hr hne.1, fun i hi => ?_⟩
      have him := hne.2 i hi
      obtain ⟨h0, o, ho, hal⟩ := mem_ready.1 hi
      have hlt := (Array.getElem?_eq_some_iff.1 ho).1
      have hcont := hcontG i him o ho h0 hal
      have hs := hstep i him o a w ho hG hA.old (fun p e o' s hp hb ho' hs hlt' => by
        have hd := hdown
        simp only [downB, List.all_eq_true, List.mem_range] at hd
        have hd := hd i hlt
        rw [ho] at hd
        simp only [Array.all_eq_true_iff_forall_mem, Bool.or_eq_true, Bool.not_eq_true', decide_eq_true_eq] at hd
        have hem : e ∈ o.after := by simpa using Array.mem_of_getElem? hp
        have hlt2 := (hd e hem).resolve_left (by simp [hb])
        exact hA.new e.on o' s (hal e hem hb) (by omega) ho' hs hlt') (fun a' w' => wpAny P .any ops Q fuel (listed.setIfInBounds i true) a' w') hcont
      unfold wpOp
      simp only [ho]
      split at hs
      · rename_i hw
        simp only [hw, if_true]
        exact .inl hs
      · rename_i hw
        simp only [hw]
        exact hs

/-- The region: the steps ahead of the tail one by one; the tail in its order. -/
theorem wp_region_invL {id : Nat} (m k : Nat) (V : Tmp → Value) (A : Tmp → Option (Array Value × TypeId × Option Nat)) {base : Act} {W : World} (hmx : P.follows .mixedOrders = true) (hdown : downB ops = true) (hkm : k < m) (htail : tailL ops m k = true)
    (hs : Region.noSelect ops = true) (hfr : freeL ops k = true) (hQ : ∀ c a d v w, Q (.panic c) (a.put d v) w → Q (.panic c) a w)
    (hlate : LateOk P ops m V A base W.drew k) (hm : decide (m ≤ ops.size) = true)
    (hstep : ∀ i, i < m → StepOk P ops m Q V A base W.drew i)
    (hend : ∀ (U : Tmp → Value) (w : World), Below W.heap.size W w → (∀ s ∈ dsts ops m, s < base.tmps.size → Ok V A W.heap.size s (U s) w) →
      (∀ s ∈ dsts ops m, ∀ s' ∈ dsts ops m, s < base.tmps.size → s' < base.tmps.size → s ≠ s' → A s ≠ none → A s' ≠ none → blkOf (U s) ≠ blkOf (U s')) →
      wpOps P ops Q (List.range' m (ops.size - m)) { tmps := setAll U (dsts ops m) base.tmps, defers := base.defers } w) : (Code.region id ops true).wp P Q base W := by
  refine wp_region_any hmx ?_
  refine wpAny_invL (W := W.drew) hdown hkm htail (of_decide_eq_true hm) hs hfr hQ hlate hstep (fun U w hb h1 h2 => hend U w ⟨hb.os, hb.tape, hb.output, hb.size, hb.block⟩ h1 h2) ops.size _ base _ (by simp) ?_ ?_ ?_ ?_ ⟨rfl, rfl, fun _ _ => rfl, ?_, ?_⟩
  · exact Nat.le_trans (List.length_filter_le _ _) (by simp)
  · intro i hi h
    simp [Array.getElem?_replicate] at h
    split at h <;> simp at h
  · intro i j h
    exfalso
    simp [Array.getElem?_replicate] at h
    split at h <;> simp at h
  · exact ⟨rfl, rfl, rfl, Nat.le_refl _, fun _ _ => rfl⟩
  · intro i o s h
    exfalso
    simp [Array.getElem?_replicate] at h
    split at h <;> simp at h
  · intro i j o o' s s' h
    exfalso
    simp [Array.getElem?_replicate] at h
    split at h <;> simp at h

theorem wp_region_stepsL {id : Nat} (m k : Nat) (V : Tmp → Value) (A : Tmp → Option (Array Value × TypeId × Option Nat)) {base : Act} {W : World} (hmx : P.follows .mixedOrders = true) (hdown : downB ops = true) (hkm : decide (k < m) = true) (htail : tailL ops m k = true) (hm : decide (m ≤ ops.size) = true)
    (hsz : ((dsts ops m).all fun s => decide (s < base.tmps.size)) = true)
    (hs : Region.noSelect ops = true) (hfr : freeL ops k = true) (hQ : ∀ c a d v w, Q (.panic c) (a.put d v) w → Q (.panic c) a w)
    (hlate : LateS P ops m V A base W k)
    (hstep : ∀ i, i < m → StepS P ops m Q V A base W i)
    (hend : ∀ (U : Tmp → Value) (w : World), Below W.heap.size W w → (∀ s, (dsts ops m).contains s = true → Ok V A W.heap.size s (U s) w) →
      (∀ s s', (dsts ops m).contains s = true → (dsts ops m).contains s' = true → s ≠ s' → A s ≠ none → A s' ≠ none → blkOf (U s) ≠ blkOf (U s')) →
      wpList P ops Q (ops.toList.drop m) { tmps := setAll U (dsts ops m) base.tmps, defers := base.defers } w) : (Code.region id ops true).wp P Q base W := by
  have hall : ∀ s, s ∈ dsts ops m → s < base.tmps.size := fun s hs => by
    have := List.all_eq_true.1 hsz s hs
    simpa using this
  refine wp_region_invL m k V A hmx hdown (of_decide_eq_true hkm) htail hs hfr hQ ?_ hm (fun i hi => ?_) (fun U w hb h1 h2 => ?_)
  · intro o a ho hold hnew
    refine hlate o a ho (fun s hs => hold s (by simpa using hs)) (fun s hs => ?_)
    obtain ⟨p, e, o', hp, hb, ho', hs'⟩ := depB_spec hs
    have hlt : e.on < m := by
      have hd := hdown
      simp only [downB, List.all_eq_true, List.mem_range] at hd
      have hlo := (Array.getElem?_eq_some_iff.1 ho).1
      have hd := hd k hlo
      rw [ho] at hd
      simp only [Array.all_eq_true_iff_forall_mem, Bool.or_eq_true, Bool.not_eq_true', decide_eq_true_eq] at hd
      have := (hd e (by simpa using Array.mem_of_getElem? hp)).resolve_left (by simp [hb])
      have := of_decide_eq_true hkm
      omega
    exact hnew p e o' s hp hb ho' hs' (hall s (mem_dsts ho' hlt hs'))
  · intro o a w ho hG hold hnew K hK
    refine hstep i hi o a w ho ⟨hG.os, hG.tape, hG.output, hG.size, hG.block⟩ (fun s hs => hold s (by simpa using hs)) (fun s hs => ?_) K (fun v w' hb hv => hK v w' hb (fun s hs => (hv s hs).1) (fun s g hs hA hg => (hv s hs).2 hA g hg))
    obtain ⟨p, e, o', hp, hb, ho', hs'⟩ := depB_spec hs
    have hlt : e.on < m := by
      have hd := hdown
      simp only [downB, List.all_eq_true, List.mem_range] at hd
      have hlo := (Array.getElem?_eq_some_iff.1 ho).1
      have hd := hd i hlo
      rw [ho] at hd
      simp only [Array.all_eq_true_iff_forall_mem, Bool.or_eq_true, Bool.not_eq_true', decide_eq_true_eq] at hd
      have := (hd e (by simpa using Array.mem_of_getElem? hp)).resolve_left (by simp [hb])
      omega
    exact hnew p e o' s hp hb ho' hs' (hall s (mem_dsts ho' hlt hs'))
  · have he := hend U w hb (fun s hs => h1 s (by simpa using hs) (hall s (by simpa using hs))) (fun s s' hs hs' => h2 s (by simpa using hs) s' (by simpa using hs') (hall s (by simpa using hs)) (hall s' (by simpa using hs')))
    have hlen : (ops.toList.drop m).length = ops.size - m := by simp
    rw [← hlen, wpOps_eq_wpList (ops := ops) (ops.toList.drop m) m (by intro j; simp)]
    exact he
end
end Go.Proofs.YtendjifhdpeebaaDoor
