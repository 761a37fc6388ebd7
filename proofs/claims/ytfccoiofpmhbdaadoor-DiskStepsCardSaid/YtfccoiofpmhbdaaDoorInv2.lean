/- A region that draws its order, each of whose operations has one and the same value in whatever order, fresh slots (pointers or slices to new blocks) aside: walked operation by operation. No program stands in this text. As XInv, but a fresh slot may hold a slice. -/
import Derived.Orders
import Derived.Tactics
import Derived.Below
import Derived.Laws.World
namespace Go.Proofs.YtfccoiofpmhbdaaDoor
open Go Go.RowKit

/-- Every edge that binds leads to an operation further ahead. -/
def downB (ops : Array Oper) : Bool :=
  (List.range ops.size).all fun i => match ops[i]? with
    | some o => o.after.all fun e => !Region.binds .any e || decide (e.on < i)
    | none => true
def dsts (ops : Array Oper) (m : Nat) : List Tmp := (ops.toList.take m).filterMap (·.dst)
def wait (ops : Array Oper) (i j : Nat) : Bool := match ops[i]? with
  | some o => o.after.any fun e => Region.binds .any e && decide (e.on = j)
  | none => false
/-- To wait, by at most three steps. -/
def wait3 (ops : Array Oper) (i j : Nat) : Bool :=
  wait ops i j || (List.range i).any fun k => wait ops i k && (wait ops k j || (List.range k).any fun l => wait ops k l && wait ops l j)
/-- From m on each operation waits for all that stand ahead of it. -/
def tailB (ops : Array Oper) (m : Nat) : Bool :=
  (List.range ops.size).all fun i => decide (i < m) || (List.range i).all fun j => wait3 ops i j

def Closed (ops : Array Oper) (listed : Array Bool) : Prop := ∀ i j, listed.getD i false = true → wait ops i j = true → listed.getD j false = true
theorem wait_of {ops : Array Oper} {listed : Array Bool} {i j : Nat} {o : Oper} (ho : ops[i]? = some o) (hall : ∀ e ∈ o.after, Region.binds .any e = true → listed.getD e.on false = true) (h : wait ops i j = true) : listed.getD j false = true := by
  unfold wait at h
  rw [ho] at h
  simp only [Array.any_eq_true', Bool.and_eq_true, decide_eq_true_eq] at h
  obtain ⟨e, he, hb, rfl⟩ := h
  exact hall e he hb
theorem wait3_listed {ops : Array Oper} {listed : Array Bool} {i j : Nat} {o : Oper} (hc : Closed ops listed) (ho : ops[i]? = some o) (hall : ∀ e ∈ o.after, Region.binds .any e = true → listed.getD e.on false = true) (h : wait3 ops i j = true) : listed.getD j false = true := by
  simp only [wait3, Bool.or_eq_true, List.any_eq_true, Bool.and_eq_true] at h
  rcases h with h | ⟨k, _, hk, h | ⟨l, _, hl, h⟩⟩
  · exact wait_of ho hall h
  · exact hc k j (wait_of ho hall hk) h
  · exact hc l j (hc k l (wait_of ho hall hk) hl) h

/-- A pointer to the block's start, or a slice of all its n elements. -/
def mkv (k : Option Nat) (g : Nat) : Value := match k with
  | none => .pointer (some ⟨g, 0, none⟩)
  | some n => .slice (some ⟨g, 0, none⟩) n n
def blkOf : Value → Option Nat
  | .pointer (some a) => some a.block
  | .slice (some a) _ _ => some a.block
  | _ => none
theorem blkOf_mkv (k : Option Nat) (g : Nat) : blkOf (mkv k g) = some g := by cases k <;> rfl

/-- What a slot holds: a value that is known ahead, or a pointer to a new block that is known whole. -/
def Ok (V : Tmp → Value) (A : Tmp → Option (Array Value × TypeId × Option Nat)) (N : Nat) (s : Tmp) (v : Value) (w : World) : Prop :=
  match A s with
  | none => v = V s
  | some (cs, t, k) => ∃ g, v = mkv k g ∧ N ≤ g ∧ w.heap[g]? = some (.cells cs t (0, 0))

theorem Ok.mono {V : Tmp → Value} {A : Tmp → Option (Array Value × TypeId × Option Nat)} {N : Nat} {s : Tmp} {v : Value} {w w' : World} (h : Ok V A N s v w) (hb : Below w.heap.size w w') : Ok V A N s v w' := by
  unfold Ok at *
  split at h
  · exact h
  · obtain ⟨g, h1, h2, h3⟩ := h
    exact ⟨g, h1, h2, (hb.block g (Array.getElem?_eq_some_iff.1 h3).1).trans h3⟩
theorem Ok.lt {V : Tmp → Value} {A : Tmp → Option (Array Value × TypeId × Option Nat)} {N : Nat} {s : Tmp} {v : Value} {w : World} {x : Array Value × TypeId × Option Nat} (h : Ok V A N s v w) (hA : A s = some x) : ∃ g, blkOf v = some g ∧ g < w.heap.size := by
  unfold Ok at h
  rw [hA] at h
  obtain ⟨g, h1, _, h3⟩ := h
  exact ⟨g, by rw [h1, blkOf_mkv], (Array.getElem?_eq_some_iff.1 h3).1⟩

/-- What has been written so far. -/
structure Agrees (ops : Array Oper) (m : Nat) (V : Tmp → Value) (A : Tmp → Option (Array Value × TypeId × Option Nat)) (N : Nat) (base : Act) (done : Nat → Prop) (a : Act) (w : World) : Prop where
  defers : a.defers = base.defers
  size : a.tmps.size = base.tmps.size
  old : ∀ s, s ∉ dsts ops m → a.tmps[s]? = base.tmps[s]?
  new : ∀ i o s, done i → i < m → ops[i]? = some o → o.dst = some s → s < base.tmps.size → ∃ v, a.tmps[s]? = some v ∧ Ok V A N s v w
  inj : ∀ i j o o' s s', done i → done j → i < m → j < m → ops[i]? = some o → ops[j]? = some o' → o.dst = some s → o'.dst = some s' → s < base.tmps.size → s' < base.tmps.size → s ≠ s' → A s ≠ none → A s' ≠ none → (a.tmps[s]?).bind blkOf ≠ (a.tmps[s']?).bind blkOf

def setAll (V : Tmp → Value) : List Tmp → Array Value → Array Value
  | [], t => t
  | s :: r, t => setAll V r (t.setIfInBounds s (V s))

theorem setAll_size (V : Tmp → Value) : ∀ (l : List Tmp) (t : Array Value), (setAll V l t).size = t.size
  | [], _ => rfl
  | _ :: r, t => by rw [setAll, setAll_size V r]; simp
theorem setAll_get (V : Tmp → Value) : ∀ (l : List Tmp) (t : Array Value) (s : Nat), (setAll V l t)[s]? = if s ∈ l ∧ s < t.size then some (V s) else t[s]?
  | [], t, s => by simp [setAll]
  | x :: r, t, s => by
    rw [setAll, setAll_get V r]
    simp only [Array.size_setIfInBounds, List.mem_cons]
    by_cases hs : s ∈ r
    · by_cases hlt : s < t.size
      · simp [hs, hlt]
      · simp [hlt]
    · by_cases hx : s = x
      · subst hx
        by_cases hlt : s < t.size
        · simp [hs, hlt]
        · simp [hs, hlt]
      · simp [hs, hx, Array.getElem?_setIfInBounds_ne (Ne.symm hx)]


theorem mem_dsts {ops : Array Oper} {m i : Nat} {o : Oper} {s : Tmp} (hi : ops[i]? = some o) (hm : i < m) (hd : o.dst = some s) : s ∈ dsts ops m := by
  refine List.mem_filterMap.2 ⟨o, ?_, hd⟩
  have : (ops.toList.take m)[i]? = some o := by
    rw [List.getElem?_take, if_pos hm]
    simpa using hi
  exact List.mem_of_getElem? this
theorem dsts_mem {ops : Array Oper} {m : Nat} {s : Tmp} (h : s ∈ dsts ops m) : ∃ i o, i < m ∧ ops[i]? = some o ∧ o.dst = some s := by
  obtain ⟨o, ho, hd⟩ := List.mem_filterMap.1 h
  obtain ⟨i, hi⟩ := List.getElem?_of_mem ho
  rw [List.getElem?_take] at hi
  split at hi
  · exact ⟨i, o, by assumption, by simpa using hi, hd⟩
  · cases hi

theorem Agrees.all {ops : Array Oper} {m : Nat} {V : Tmp → Value} {A : Tmp → Option (Array Value × TypeId × Option Nat)} {N : Nat} {base a : Act} {w : World} (h : Agrees ops m V A N base (fun i => i < m) a w) :
    ∃ U : Tmp → Value, a = { tmps := setAll U (dsts ops m) base.tmps, defers := base.defers } ∧ (∀ s ∈ dsts ops m, s < base.tmps.size → Ok V A N s (U s) w) ∧
      (∀ s ∈ dsts ops m, ∀ s' ∈ dsts ops m, s < base.tmps.size → s' < base.tmps.size → s ≠ s' → A s ≠ none → A s' ≠ none → blkOf (U s) ≠ blkOf (U s')) := by
  obtain ⟨tm, df⟩ := a
  obtain ⟨h1, h2, h3, h4, h5⟩ := h
  simp only at h1 h2 h3 h4 h5
  subst h1
  have hU : ∀ s, s < base.tmps.size → tm[s]? = some (tm.getD s undef) := by
    intro s hs
    have : s < tm.size := by omega
    simp [this]
  refine ⟨fun s => tm.getD s undef, ?_, ?_, ?_⟩
  · congr 1
    apply Array.ext_getElem?
    intro s
    rw [setAll_get]
    by_cases hs : s ∈ dsts ops m
    · by_cases hlt : s < base.tmps.size
      · rw [if_pos ⟨hs, hlt⟩]
        exact hU s hlt
      · rw [if_neg (fun c => hlt c.2)]
        rw [Array.getElem?_eq_none (by omega), Array.getElem?_eq_none (by omega)]
    · rw [if_neg (fun c => hs c.1), h3 s hs]
  · intro s hs hlt
    obtain ⟨i, o, hm, hi, hd⟩ := dsts_mem hs
    obtain ⟨v, hv, hok⟩ := h4 i o s hm hm hi hd hlt
    rw [hU s hlt] at hv
    obtain rfl := Option.some.inj hv
    exact hok
  · intro s hs s' hs' hlt hlt' hne hA hA' he
    obtain ⟨i, o, hm, hi, hd⟩ := dsts_mem hs
    obtain ⟨j, o', hm', hj, hd'⟩ := dsts_mem hs'
    refine h5 i j o o' s s' hm hm' hm hm' hi hj hd hd' hlt hlt' hne hA hA' ?_
    rw [hU s hlt, hU s' hlt']
    exact he

section
variable {P : Program} {ops : Array Oper} {Q : Exit → Act → World → Prop}

theorem agrees_put {m : Nat} {V : Tmp → Value} {A : Tmp → Option (Array Value × TypeId × Option Nat)} {N : Nat} {base a : Act} {done : Nat → Prop} {i : Nat} {o : Oper} {v : Value} {w w' : World} (h : Agrees ops m V A N base done a w) (hm : i < m) (hi : ops[i]? = some o)
    (hb : Below w.heap.size w w') (hv : ∀ s, o.dst = some s → Ok V A N s v w') (hf : ∀ s g, o.dst = some s → A s ≠ none → blkOf v = some g → w.heap.size ≤ g) :
    Agrees ops m V A N base (fun j => done j ∨ j = i) (a.put o.dst v) w' := by
  have hget : ∀ s, (a.put o.dst v).tmps[s]? = if o.dst = some s ∧ s < a.tmps.size then some v else a.tmps[s]? := by
    intro s
    cases hd : o.dst with
    | none => simp [Act.put]
    | some d =>
      by_cases hds : d = s
      · subst hds
        by_cases hlt : d < a.tmps.size
        · simp [Act.put, hlt]
        · simp [Act.put, hlt]
      · simp [Act.put, Array.getElem?_setIfInBounds_ne hds, hds]
  have hnew : ∀ j o' s, (done j ∨ j = i) → j < m → ops[j]? = some o' → o'.dst = some s → s < base.tmps.size → ∃ v', (a.put o.dst v).tmps[s]? = some v' ∧ Ok V A N s v' w' := by
    intro j o' s hj hjm ho' hs hlt
    rw [hget]
    by_cases hc : o.dst = some s ∧ s < a.tmps.size
    · rw [if_pos hc]
      exact ⟨v, rfl, hv s hc.1⟩
    · rw [if_neg hc]
      rcases hj with hj | rfl
      · obtain ⟨v', h1, h2⟩ := h.new j o' s hj hjm ho' hs hlt
        exact ⟨v', h1, h2.mono hb⟩
      · rw [hi] at ho'
        obtain rfl := Option.some.inj ho'
        exact absurd ⟨hs, by rw [h.size]; exact hlt⟩ hc
  refine ⟨?_, ?_, fun s hs => ?_, hnew, ?_⟩
  · cases o.dst <;> exact h.defers
  · cases hd : o.dst <;> simp [Act.put, h.size]
  · rw [hget, if_neg (fun c => hs (mem_dsts hi hm c.1))]
    exact h.old s hs
  · intro j j' o1 o2 s s' hj hj' hjm hjm' h1 h2 hs hs' hlt hlt' hne hA hA' he
    -- at most one of both has just been written
    by_cases hc : o.dst = some s ∧ s < a.tmps.size
    · have hc' : ¬ (o.dst = some s' ∧ s' < a.tmps.size) := fun c => hne (Option.some.inj (hc.1.symm.trans c.1))
      have hd' : done j' := by
        rcases hj' with hj' | rfl
        · exact hj'
        · rw [hi] at h2
          obtain rfl := Option.some.inj h2
          exact absurd ⟨hs', by rw [h.size]; exact hlt'⟩ hc'
      rw [hget, hget, if_pos hc, if_neg hc'] at he
      obtain ⟨v', hv1, hv2⟩ := h.new j' o2 s' hd' hjm' h2 hs' hlt'
      rw [hv1] at he
      cases hAs : A s' with
      | none => exact hA' hAs
      | some x =>
        obtain ⟨g, hg, hgl⟩ := hv2.lt hAs
        have := hf s g hc.1 hA (he.trans hg)
        omega
    · have hd1 : done j := by
        rcases hj with hj | rfl
        · exact hj
        · rw [hi] at h1
          obtain rfl := Option.some.inj h1
          exact absurd ⟨hs, by rw [h.size]; exact hlt⟩ hc
      by_cases hc' : o.dst = some s' ∧ s' < a.tmps.size
      · rw [hget, hget, if_neg hc, if_pos hc'] at he
        obtain ⟨v', hv1, hv2⟩ := h.new j o1 s hd1 hjm h1 hs hlt
        rw [hv1] at he
        cases hAs : A s with
        | none => exact hA hAs
        | some x =>
          obtain ⟨g, hg, hgl⟩ := hv2.lt hAs
          have := hf s' g hc'.1 hA' (he.symm.trans hg)
          omega
      · have hd2 : done j' := by
          rcases hj' with hj' | rfl
          · exact hj'
          · rw [hi] at h2
            obtain rfl := Option.some.inj h2
            exact absurd ⟨hs', by rw [h.size]; exact hlt'⟩ hc'
        rw [hget, hget, if_neg hc, if_neg hc'] at he
        exact h.inj j j' o1 o2 s s' hd1 hd2 hjm hjm' h1 h2 hs hs' hlt hlt' hne hA hA' he

/-- One operation, whatever has been done, so long as what it waits for has been. -/
def StepOk (P : Program) (ops : Array Oper) (m : Nat) (Q : Exit → Act → World → Prop) (V : Tmp → Value) (A : Tmp → Option (Array Value × TypeId × Option Nat)) (base : Act) (W : World) (i : Nat) : Prop :=
  ∀ (o : Oper) (a : Act) (w : World), ops[i]? = some o → Below W.heap.size W w → (∀ s, s ∉ dsts ops m → a.tmps[s]? = base.tmps[s]?) →
    (∀ (p : Nat) (e : Edge) (o' : Oper) (s : Tmp), o.after[p]? = some e → Region.binds .any e = true → ops[e.on]? = some o' → o'.dst = some s → s < base.tmps.size → ∃ v, a.tmps[s]? = some v ∧ Ok V A W.heap.size s v w) →
    ∀ K : Act → World → Prop, (∀ v w', Below w.heap.size w w' → (∀ s, o.dst = some s → Ok V A W.heap.size s v w') → (∀ s g, o.dst = some s → A s ≠ none → blkOf v = some g → w.heap.size ≤ g) → K (a.put o.dst v) w') →
      if Region.wanted o (yielded ops a.tmps) = true then o.wp P a w K Q else K (a.put o.dst undef) w

def unl (listed : Array Bool) (n : Nat) : List Nat := (List.range n).filter fun i => !listed.getD i true

theorem unl_set {listed : Array Bool} {n i : Nat} (hi : i < n) (hs : listed.size = n) (h0 : listed.getD i true = false) : (unl (listed.setIfInBounds i true) n).length < (unl listed n).length := by
  have hsub : unl (listed.setIfInBounds i true) n = (unl listed n).filter (fun j => decide (j ≠ i)) := by
    unfold unl
    rw [List.filter_filter]
    apply List.filter_congr
    intro j _
    by_cases hji : j = i
    · subst hji
      have : j < listed.size := by omega
      simp [this]
    · rw [getD_set_ne true (Ne.symm hji)]
      simp [hji]
  rw [hsub]
  have hmem : i ∈ unl listed n := List.mem_filter.2 ⟨List.mem_range.2 hi, by simp [h0]⟩
  exact List.length_filter_lt_length_iff_exists.2 ⟨i, hmem, by simp⟩

/-- The forced tail. -/
theorem wpAny_forced (hdown : downB ops = true) {m : Nat} (htail : tailB ops m = true) :
    ∀ (d j : Nat) (fuel : Nat) (listed : Array Bool) (a : Act) (w : World), j + d = ops.size → m ≤ j → d ≤ fuel → listed.size = ops.size → (∀ i, i < ops.size → (listed.getD i false = true ↔ i < j)) →
      wpOps P ops Q (List.range' j d) a w → wpAny P .any ops Q fuel listed a w := by
  have hr : ∀ (j : Nat) (listed : Array Bool), m ≤ j → listed.size = ops.size → (∀ i, i < ops.size → (listed.getD i false = true ↔ i < j)) → ∀ i ∈ Region.ready .any ops listed, i = j := by
    intro j listed hmj hsz hl i hi
    obtain ⟨h0, o, ho, hall⟩ := mem_ready.1 hi
    have hlt := (Array.getElem?_eq_some_iff.1 ho).1
    have hlt' : i < listed.size := by omega
    have hge : ¬ i < j := by
      intro hc
      have := (hl i hlt).2 hc
      simp [hlt'] at h0 this
      rw [h0] at this
      cases this
    have hle : i ≤ j := by
      rcases Nat.lt_or_ge j i with hji | h
      · exfalso
        have ht := htail
        simp only [tailB, List.all_eq_true, List.mem_range, Bool.or_eq_true, decide_eq_true_eq] at ht
        have h1 := (ht i hlt).resolve_left (by omega)
        have hcl : Closed ops listed := by
          intro x y hx hw
          unfold wait at hw
          split at hw
          · rename_i ox hox
            have hlx := (Array.getElem?_eq_some_iff.1 hox).1
            simp only [Array.any_eq_true', Bool.and_eq_true, decide_eq_true_eq] at hw
            obtain ⟨e, he, hb, rfl⟩ := hw
            have hd := hdown
            simp only [downB, List.all_eq_true, List.mem_range] at hd
            have hd := hd x hlx
            rw [hox] at hd
            simp only [Array.all_eq_true_iff_forall_mem, Bool.or_eq_true, Bool.not_eq_true', decide_eq_true_eq] at hd
            have h2 := (hd e he).resolve_left (by simp [hb])
            have h3 := (hl x hlx).1 hx
            exact (hl e.on (by omega)).2 (by omega)
          · cases hw
        have := wait3_listed hcl ho hall (h1 j hji)
        have := (hl j (by omega)).1 this
        omega
      · exact h
    omega
  intro d
  induction d with
  | zero =>
    intro j fuel listed a w hjd hmj hf hsz hl h
    have hnil : Region.ready .any ops listed = [] := by
      rw [List.eq_nil_iff_forall_not_mem]
      intro i hi
      have h1 := hr j listed hmj hsz hl i hi
      obtain ⟨_, o, ho, _⟩ := mem_ready.1 hi
      have := (Array.getElem?_eq_some_iff.1 ho).1
      omega
    have hq : Q .normal a w := by simpa [wpOps] using h
    cases fuel with
    | zero => exact ⟨hnil, hq⟩
    | succ fuel => exact ⟨fun _ => hq, fun i hi => by rw [hnil] at hi; cases hi⟩
  | succ d ih =>
    intro j fuel listed a w hjd hmj hf hsz hl h
    cases fuel with
    | zero => omega
    | succ fuel =>
      have hlt : j < ops.size := by omega
      have hj : ops[j]? = some ops[j] := Array.getElem?_eq_getElem hlt
      have hready : j ∈ Region.ready .any ops listed := by
        rw [mem_ready]
        have hlj : j < listed.size := by omega
        refine ⟨?_, ops[j], hj, fun e he hb => ?_⟩
        · rcases Bool.eq_false_or_eq_true (listed.getD j true) with hc | hc
          · have : listed.getD j false = true := by simpa [hlj] using hc
            have := (hl j hlt).1 this
            omega
          · exact hc
        · have hd := hdown
          simp only [downB, List.all_eq_true, List.mem_range] at hd
          have hd := hd j hlt
          rw [hj] at hd
          simp only [Array.all_eq_true_iff_forall_mem, Bool.or_eq_true, Bool.not_eq_true', decide_eq_true_eq] at hd
          have hlt' := (hd e he).resolve_left (by simp [hb])
          exact (hl e.on (by omega)).2 hlt'
      refine ⟨fun hc => (by rw [hc] at hready; cases hready), fun i hi => ?_⟩
      obtain rfl := hr j listed hmj hsz hl i hi
      rw [List.range'_succ, wpOps_cons] at h
      refine wpOp_mono (fun a' w' h' => ?_) h
      refine ih (i + 1) fuel _ a' w' (by omega) (by omega) (by omega) (by simp [hsz]) (fun k hk => ?_) h'
      by_cases hki : k = i
      · subst hki
        have : k < listed.size := by omega
        simp [this]
      · rw [getD_set_ne false (Ne.symm hki), hl k hk]
        omega

theorem wpAny_inv {m : Nat} {V : Tmp → Value} {A : Tmp → Option (Array Value × TypeId × Option Nat)} {base : Act} {W : World} (hdown : downB ops = true) (htail : tailB ops m = true) (hm : m ≤ ops.size)
    (hstep : ∀ i, i < m → StepOk P ops m Q V A base W i)
    (hend : ∀ (U : Tmp → Value) (w : World), Below W.heap.size W w → (∀ s ∈ dsts ops m, s < base.tmps.size → Ok V A W.heap.size s (U s) w) →
      (∀ s ∈ dsts ops m, ∀ s' ∈ dsts ops m, s < base.tmps.size → s' < base.tmps.size → s ≠ s' → A s ≠ none → A s' ≠ none → blkOf (U s) ≠ blkOf (U s')) →
      wpOps P ops Q (List.range' m (ops.size - m)) { tmps := setAll U (dsts ops m) base.tmps, defers := base.defers } w) :
    ∀ (fuel : Nat) (listed : Array Bool) (a : Act) (w : World), listed.size = ops.size → (unl listed ops.size).length ≤ fuel → (∀ i, i < ops.size → listed.getD i false = true → i < m) → Closed ops listed →
      Below W.heap.size W w → Agrees ops m V A W.heap.size base (fun i => listed.getD i false = true) a w → wpAny P .any ops Q fuel listed a w := by
  intro fuel
  induction fuel with
  | zero =>
    intro listed a w hsz hf hlm hcl hG hA
    have hnil : unl listed ops.size = [] := List.length_eq_zero_iff.1 (Nat.le_zero.1 hf)
    have hall : ∀ i, i < ops.size → listed.getD i false = true := by
      intro i hi
      have hl : i < listed.size := by omega
      have hn : i ∉ unl listed ops.size := by rw [hnil]; simp
      simp only [unl, List.mem_filter, List.mem_range, hi, true_and, Bool.not_eq_true', Bool.not_eq_false] at hn
      simpa [hl] using hn
    have hms : m = ops.size := by
      rcases Nat.lt_or_ge m ops.size with h | h
      · have := hlm m h (hall m h); omega
      · omega
    have hA' : Agrees ops m V A W.heap.size base (fun i => i < m) a w := ⟨hA.defers, hA.size, hA.old, fun i o s hi him ho hs hlt => hA.new i o s (hall i (by omega)) him ho hs hlt,
      fun i j o o' s s' hi hj him hjm => hA.inj i j o o' s s' (hall i (by omega)) (hall j (by omega)) him hjm⟩
    obtain ⟨U, rfl, hU, hI⟩ := hA'.all
    exact wpAny_forced hdown htail (ops.size - m) m 0 listed _ w (by omega) (Nat.le_refl _) (by omega) hsz (fun i hi => ⟨fun _ => by omega, fun _ => hall i hi⟩) (hend U w hG hU hI)
  | succ fuel ih =>
    intro listed a w hsz hf hlm hcl hG hA
    by_cases hall : ∀ i, i < m → listed.getD i false = true
    · have hA' : Agrees ops m V A W.heap.size base (fun i => i < m) a w := ⟨hA.defers, hA.size, hA.old, fun i o s hi him ho hs hlt => hA.new i o s (hall i him) him ho hs hlt,
        fun i j o o' s s' hi hj him hjm => hA.inj i j o o' s s' (hall i him) (hall j hjm) him hjm⟩
      obtain ⟨U, rfl, hU, hI⟩ := hA'.all
      have hlen : ops.size - m ≤ fuel + 1 := by
        refine Nat.le_trans ?_ hf
        have hsub : (List.range' m (ops.size - m)).Sublist (List.range ops.size) := by
          rw [List.range_eq_range']
          have : List.range' 0 ops.size = List.range' 0 m ++ List.range' m (ops.size - m) := by
            have h1 : ops.size = m + (ops.size - m) := by omega
            conv => lhs; rw [h1]
            have h2 := List.range'_append_1 (s := 0) (m := m) (n := ops.size - m)
            rw [Nat.zero_add] at h2
            exact h2.symm
          rw [this]
          exact List.sublist_append_right _ _
        have hfil := hsub.filter (fun i => !listed.getD i true)
        have hself : (List.range' m (ops.size - m)).filter (fun i => !listed.getD i true) = List.range' m (ops.size - m) := by
          rw [List.filter_eq_self]
          intro i hi
          obtain ⟨h1, h2⟩ := List.mem_range'_1.1 hi
          have hlt : i < ops.size := by omega
          have hl : i < listed.size := by omega
          rcases Bool.eq_false_or_eq_true (listed.getD i true) with hc | hc
          · have : listed.getD i false = true := by simpa [hl] using hc
            have := hlm i hlt this
            omega
          · simp [hc]
        rw [hself] at hfil
        have := hfil.length_le
        simpa [unl] using this
      exact wpAny_forced hdown htail (ops.size - m) m (fuel + 1) listed _ w (by omega) (Nat.le_refl _) hlen hsz (fun i hi => ⟨fun h => hlm i hi h, fun h => hall i h⟩) (hend U w hG hU hI)
    · have hne : Region.ready .any ops listed ≠ [] ∧ ∀ i ∈ Region.ready .any ops listed, i < m := by
        constructor
        · intro hr
          apply hall
          intro i
          induction i using Nat.strongRecOn with
          | _ i ihi =>
            intro hlt
            rcases Bool.eq_false_or_eq_true (listed.getD i false) with h | h
            · exact h
            · exfalso
              have hlo : i < ops.size := by omega
              have hi : ops[i]? = some ops[i] := Array.getElem?_eq_getElem hlo
              have : i ∈ Region.ready .any ops listed := by
                rw [mem_ready]
                refine ⟨?_, ops[i], hi, fun e he hb => ?_⟩
                · have hl : i < listed.size := by omega
                  simp only [Array.getD_eq_getD_getElem?, Array.getElem?_eq_getElem hl, Option.getD_some] at h ⊢
                  exact h
                · have hd := hdown
                  simp only [downB, List.all_eq_true, List.mem_range] at hd
                  have hd := hd i hlo
                  rw [hi] at hd
                  simp only [Array.all_eq_true_iff_forall_mem, Bool.or_eq_true, Bool.not_eq_true', decide_eq_true_eq] at hd
                  have hlt' := (hd e he).resolve_left (by simp [hb])
                  exact ihi e.on hlt' (by omega)
              rw [hr] at this
              cases this
        · intro i hi
          rcases Nat.lt_or_ge i m with h | h
          · exact h
          · exfalso
            apply hall
            intro j hj
            obtain ⟨_, o, ho, hal⟩ := mem_ready.1 hi
            have hlo := (Array.getElem?_eq_some_iff.1 ho).1
            have ht := htail
            simp only [tailB, List.all_eq_true, List.mem_range, Bool.or_eq_true, decide_eq_true_eq] at ht
            have h1 := (ht i hlo).resolve_left (by omega)
            exact wait3_listed hcl ho hal (h1 j (by omega))
      refine ⟨fun hr => absurd hr hne.1, fun i hi => ?_⟩
      have him := hne.2 i hi
      obtain ⟨h0, o, ho, hal⟩ := mem_ready.1 hi
      have hlt := (Array.getElem?_eq_some_iff.1 ho).1
      have hlen : (unl (listed.setIfInBounds i true) ops.size).length ≤ fuel := by
        have := unl_set hlt hsz h0
        omega
      have hcont : ∀ v w', Below w.heap.size w w' → (∀ s, o.dst = some s → Ok V A W.heap.size s v w') → (∀ s g, o.dst = some s → A s ≠ none → blkOf v = some g → w.heap.size ≤ g) →
          wpAny P .any ops Q fuel (listed.setIfInBounds i true) (a.put o.dst v) w' := by
        intro v w' hb hv hf'
        refine ih _ _ _ (by simp [hsz]) hlen (fun j hj hjl => ?_) (fun j k hj hw => ?_) (hG.trans (hb.mono hG.size)) ?_
        · by_cases hji : j = i
          · omega
          · rw [getD_set_ne false (Ne.symm hji)] at hjl
            exact hlm j hj hjl
        · have hk : listed.getD k false = true := by
            by_cases hji : j = i
            · subst hji
              exact wait_of ho hal hw
            · rw [getD_set_ne false (Ne.symm hji)] at hj
              exact hcl j k hj hw
          by_cases hki : k = i
          · subst hki
            have : k < listed.size := by omega
            simp [this]
          · rw [getD_set_ne false (Ne.symm hki)]
            exact hk
        · have hp := agrees_put hA him ho hb hv hf'
          have hdone : ∀ j, (listed.setIfInBounds i true).getD j false = true → listed.getD j false = true ∨ j = i := by
            intro j hj
            by_cases hji : j = i
            · exact .inr hji
            · rw [getD_set_ne false (Ne.symm hji)] at hj
              exact .inl hj
          exact ⟨hp.defers, hp.size, hp.old, fun j o' s hj hjm ho' hs hlt' => hp.new j o' s (hdone j hj) hjm ho' hs hlt',
            fun j j' o1 o2 s s' hj hj' => hp.inj j j' o1 o2 s s' (hdone j hj) (hdone j' hj')⟩
      have hs := hstep i him o a w ho hG hA.old (fun p e o' s hp hb ho' hs hlt' => by
        have hd := hdown
        simp only [downB, List.all_eq_true, List.mem_range] at hd
        have hd := hd i hlt
        rw [ho] at hd
        simp only [Array.all_eq_true_iff_forall_mem, Bool.or_eq_true, Bool.not_eq_true', decide_eq_true_eq] at hd
        have hem : e ∈ o.after := by simpa using Array.mem_of_getElem? hp
        have hlt2 := (hd e hem).resolve_left (by simp [hb])
        exact hA.new e.on o' s (hal e hem hb) (by omega) ho' hs hlt') (fun a' w' => wpAny P .any ops Q fuel (listed.setIfInBounds i true) a' w') hcont
      unfold wpOp
      simp only [ho]
      split at hs
      · rename_i hw
        simp only [hw, if_true]
        exact .inl hs
      · rename_i hw
        simp only [hw]
        exact hs

/-- The region: the steps ahead of the tail one by one; the tail in its order. -/
theorem wp_region_inv {id : Nat} (m : Nat) (V : Tmp → Value) (A : Tmp → Option (Array Value × TypeId × Option Nat)) {base : Act} {W : World} (hmx : P.follows .mixedOrders = true) (hdown : downB ops = true) (htail : tailB ops m = true) (hm : decide (m ≤ ops.size) = true)
    (hstep : ∀ i, i < m → StepOk P ops m Q V A base W.drew i)
    (hend : ∀ (U : Tmp → Value) (w : World), Below W.heap.size W w → (∀ s ∈ dsts ops m, s < base.tmps.size → Ok V A W.heap.size s (U s) w) →
      (∀ s ∈ dsts ops m, ∀ s' ∈ dsts ops m, s < base.tmps.size → s' < base.tmps.size → s ≠ s' → A s ≠ none → A s' ≠ none → blkOf (U s) ≠ blkOf (U s')) →
      wpOps P ops Q (List.range' m (ops.size - m)) { tmps := setAll U (dsts ops m) base.tmps, defers := base.defers } w) : (Code.region id ops true).wp P Q base W := by
  refine wp_region_any hmx ?_
  refine wpAny_inv (W := W.drew) hdown htail (of_decide_eq_true hm) hstep (fun U w hb h1 h2 => hend U w ⟨hb.os, hb.tape, hb.output, hb.size, hb.block⟩ h1 h2) ops.size _ base _ (by simp) ?_ ?_ ?_ ?_ ⟨rfl, rfl, fun _ _ => rfl, ?_, ?_⟩
  · exact Nat.le_trans (List.length_filter_le _ _) (by simp)
  · intro i hi h
    simp [Array.getElem?_replicate] at h
    split at h <;> simp at h
  · intro i j h
    exfalso
    simp [Array.getElem?_replicate] at h
    split at h <;> simp at h
  · exact ⟨rfl, rfl, rfl, Nat.le_refl _, fun _ _ => rfl⟩
  · intro i o s h
    exfalso
    simp [Array.getElem?_replicate] at h
    split at h <;> simp at h
  · intro i j o o' s s' h
    exfalso
    simp [Array.getElem?_replicate] at h
    split at h <;> simp at h

def depB (ops : Array Oper) (o : Oper) (s : Tmp) : Bool := o.after.any fun e => Region.binds .any e && ((ops[e.on]?).bind (·.dst) == some s)

theorem depB_spec {o : Oper} {s : Tmp} (h : depB ops o s = true) : ∃ (p : Nat) (e : Edge) (o' : Oper), o.after[p]? = some e ∧ Region.binds .any e = true ∧ ops[e.on]? = some o' ∧ o'.dst = some s := by
  simp only [depB, Array.any_eq_true', Bool.and_eq_true, beq_iff_eq] at h
  obtain ⟨e, he, hb, hs⟩ := h
  obtain ⟨p, hp⟩ := List.getElem?_of_mem (by simpa using he : e ∈ o.after.toList)
  cases ho : ops[e.on]? with
  | none => rw [ho] at hs; cases hs
  | some o' => rw [ho] at hs; exact ⟨p, e, o', by simpa using hp, hb, ho, hs⟩

/-- The same in the walk's words: what a step may lean on is asked by the slot. -/
def StepS (P : Program) (ops : Array Oper) (m : Nat) (Q : Exit → Act → World → Prop) (V : Tmp → Value) (A : Tmp → Option (Array Value × TypeId × Option Nat)) (base : Act) (W : World) (i : Nat) : Prop :=
  ∀ (o : Oper) (a : Act) (w : World), ops[i]? = some o → Below W.heap.size W w → (∀ s, (dsts ops m).contains s = false → a.tmps[s]? = base.tmps[s]?) →
    (∀ s, depB ops o s = true → ∃ v, a.tmps[s]? = some v ∧ Ok V A W.heap.size s v w) →
    ∀ K : Act → World → Prop, (∀ v w', Below w.heap.size w w' → (∀ s, o.dst = some s → Ok V A W.heap.size s v w' ∧ (A s ≠ none → ∀ g, blkOf v = some g → w.heap.size ≤ g)) → K (a.put o.dst v) w') →
      if Region.wanted o (yielded ops a.tmps) = true then o.wp P a w K Q else K (a.put o.dst undef) w

theorem steps_zero {p : Nat → Prop} : ∀ i, i < 0 → p i := fun _ h => absurd h (Nat.not_lt_zero _)
theorem steps_succ {p : Nat → Prop} {n : Nat} (h : ∀ i, i < n → p i) (hn : p n) : ∀ i, i < n + 1 → p i := fun i hi => by
  rcases Nat.lt_or_ge i n with h1 | h1
  · exact h i h1
  · obtain rfl : i = n := by omega
    exact hn

theorem wp_region_steps {id : Nat} (m : Nat) (V : Tmp → Value) (A : Tmp → Option (Array Value × TypeId × Option Nat)) {base : Act} {W : World} (hmx : P.follows .mixedOrders = true) (hdown : downB ops = true) (htail : tailB ops m = true) (hm : decide (m ≤ ops.size) = true)
    (hsz : ((dsts ops m).all fun s => decide (s < base.tmps.size)) = true)
    (hstep : ∀ i, i < m → StepS P ops m Q V A base W i)
    (hend : ∀ (U : Tmp → Value) (w : World), Below W.heap.size W w → (∀ s, (dsts ops m).contains s = true → Ok V A W.heap.size s (U s) w) →
      (∀ s s', (dsts ops m).contains s = true → (dsts ops m).contains s' = true → s ≠ s' → A s ≠ none → A s' ≠ none → blkOf (U s) ≠ blkOf (U s')) →
      wpList P ops Q (ops.toList.drop m) { tmps := setAll U (dsts ops m) base.tmps, defers := base.defers } w) : (Code.region id ops true).wp P Q base W := by
  have hall : ∀ s, s ∈ dsts ops m → s < base.tmps.size := fun s hs => by
    have := List.all_eq_true.1 hsz s hs
    simpa using this
  refine wp_region_inv m V A hmx hdown htail hm (fun i hi => ?_) (fun U w hb h1 h2 => ?_)
  · intro o a w ho hG hold hnew K hK
    refine hstep i hi o a w ho ⟨hG.os, hG.tape, hG.output, hG.size, hG.block⟩ (fun s hs => hold s (by simpa using hs)) (fun s hs => ?_) K (fun v w' hb hv => hK v w' hb (fun s hs => (hv s hs).1) (fun s g hs hA hg => (hv s hs).2 hA g hg))
    obtain ⟨p, e, o', hp, hb, ho', hs'⟩ := depB_spec hs
    have hlt : e.on < m := by
      have hd := hdown
      simp only [downB, List.all_eq_true, List.mem_range] at hd
      have hlo := (Array.getElem?_eq_some_iff.1 ho).1
      have hd := hd i hlo
      rw [ho] at hd
      simp only [Array.all_eq_true_iff_forall_mem, Bool.or_eq_true, Bool.not_eq_true', decide_eq_true_eq] at hd
      have := (hd e (by simpa using Array.mem_of_getElem? hp)).resolve_left (by simp [hb])
      omega
    exact hnew p e o' s hp hb ho' hs' (hall s (mem_dsts ho' hlt hs'))
  · have he := hend U w hb (fun s hs => h1 s (by simpa using hs) (hall s (by simpa using hs))) (fun s s' hs hs' => h2 s (by simpa using hs) s' (by simpa using hs') (hall s (by simpa using hs)) (hall s' (by simpa using hs')))
    have hlen : (ops.toList.drop m).length = ops.size - m := by simp
    rw [← hlen, wpOps_eq_wpList (ops := ops) (ops.toList.drop m) m (by intro j; simp)]
    exact he
end
theorem cellH {w : World} {g i t : Nat} {cs : Array Value} {v : Value} (h : w.heap[g]? = some (.cells cs t (0, 0))) (hv : cs[i]? = some v) : w.cell? ⟨g, i, none⟩ = some v := by
  simp [World.cell?, h, hv]
theorem frzH {w : World} {g i t : Nat} {cs : Array Value} (h : w.heap[g]? = some (.cells cs t (0, 0))) : w.frozen? ⟨g, i, none⟩ = false := by
  simp [World.frozen?, h]
end Go.Proofs.YtfccoiofpmhbdaaDoor
