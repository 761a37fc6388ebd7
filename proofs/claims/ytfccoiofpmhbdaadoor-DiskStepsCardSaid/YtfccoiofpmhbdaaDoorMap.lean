/- Maps from texts in memory: what a look-up, a store, a delete, a range over them do, in the words of a function from texts to values. No condition. -/
import Derived.Test.YtfccoiofpmhbdaaDoorProg
import Derived.Test.YtfccoiofpmhbdaaDoorMod
import Derived.Maps.OwnSet
import Derived.Maps.OwnOps
import Derived.Maps.RangeWalk
import Derived.Maps.Views
import Derived.Sort.MapsRangeIn
import Derived.StringKeys
import Derived.KernelRfl
import Derived.WalkKit
namespace Go.Proofs.YtfccoiofpmhbdaaDoor
open Go Go.RowKit Go.Maps Go.WideElems Go.WideMaps

def heldR (v : Value) : Option (DataW Value × List MemPlace) := some (.held v, [])
abbrev Txt := List UInt8
def txt (k : Txt) : Value := .string ⟨k.toArray⟩
def lookD (D : DataW Value) (k : Txt) : Option Value := match D.atKey (.string k) .nil with
  | .held v => some v
  | _ => none
theorem strK : Keyed Tryd.prog 9 := string_keyed Tryd.underlying9
/-- Block b is a map of at most n entries; f tells them. -/
def MapAt (w : World) (b n : Nat) (f : Txt → Option Value) : Prop := ∃ D, w.ownsMap Tryd.prog 9 heldR b n D ∧ ∀ k, lookD D k = f k

theorem key_txt {k : Txt} (hk : k.length ≤ maxLen) : keyOf Tryd.prog 9 (txt k) = some (.string k) := by
  have h := keyOf_string_mk Tryd.underlying9 (s := ⟨k.toArray⟩) (by (show k.toArray.size ≤ maxLen; rw [List.size_toArray]; exact hk))
  simpa [txt] using h
set_option maxRecDepth 100000 in
theorem find_held {D : DataW Value} {w : World} {b n : Nat} (h : w.ownsMap Tryd.prog 9 heldR b n D) (k : Txt) :
    (lookD D k = none ∧ has D (.string k) = false ∧ ∀ zd, D.atKey (.string k) zd = zd) ∨ ∃ v, lookD D k = some v ∧ has D (.string k) = true ∧ ∀ zd, D.atKey (.string k) zd = .held v := by
  obtain ⟨es, clock, _, F, _, rfl⟩ := h
  unfold lookD has DataW.atKey
  simp only
  cases hf : ((es.toList.map (rg Tryd.prog 9 heldR)).foldr DataW.insert []).find? (fun p => p.1.sameKey (.string k)) with
  | none =>
    refine .inl ⟨rfl, ?_, fun _ => rfl⟩
    rw [List.find?_eq_none] at hf
    rw [← Bool.not_eq_true, List.any_eq_true]
    rintro ⟨p, hp, h2⟩
    exact hf p hp h2
  | some p =>
    have hm := List.mem_of_find?_eq_some hf
    have hs := List.find?_some hf
    obtain ⟨x, hx, rfl⟩ := List.mem_map.1 (mem_sorted.1 hm)
    obtain ⟨y, hy⟩ := F.reads x hx
    obtain ⟨z, hz, hzd⟩ := rd_val hy
    rw [rg_of hy]
    have hv : y.2 = .held x.val := by
      unfold heldR at hz
      rw [hzd, ← Option.some.inj hz]
    obtain ⟨y1, y2⟩ := y
    simp only at hv
    subst hv
    exact .inr ⟨x.val, rfl, List.any_eq_true.2 ⟨_, hm, hs⟩, fun _ => rfl⟩
section
variable {w w' : World} {b n : Nat} {f : Txt → Option Value}
theorem MapAt.made (w : World) : MapAt (w.alloc (.map #[] 0)) w.heap.size 0 (fun _ => none) := ⟨_, World.ownsMap_made w _ _ _, fun _ => rfl⟩
theorem MapAt.lt (h : MapAt w b n f) : b < w.heap.size := by obtain ⟨D, h1, _⟩ := h; exact h1.lt
theorem MapAt.kept {row : Option Nat} (h : MapAt w b n f) (hg : w.grownBy w' row) (hne : some b ≠ row) : MapAt w' b n f := by obtain ⟨D, h1, h2⟩ := h; exact ⟨D, h1.kept hg hne, h2⟩
theorem MapAt.mod {F : Nat → Prop} (h : MapAt w b n f) (hm : Mod F w w') (hn : ¬ F b) : MapAt w' b n f := by
  have hlt := h.lt
  obtain ⟨D, ⟨es, clock, hb, r⟩, h2⟩ := h
  exact ⟨D, ⟨es, clock, (hm.block b hlt hn).trans hb, r⟩, h2⟩
theorem MapAt.alloc (h : MapAt w b n f) (o : Obj) : MapAt (w.alloc o) b n f := by obtain ⟨D, h1, h2⟩ := h; exact ⟨D, h1.alloc o, h2⟩
theorem MapAt.drew (h : MapAt w b n f) : MapAt w.drew b n f := h
theorem MapAt.more {n' : Nat} (h : MapAt w b n f) (hn : n ≤ n') : MapAt w b n' f := by obtain ⟨D, h1, h2⟩ := h; exact ⟨D, h1.mono hn, h2⟩
theorem MapAt.congr {f' : Txt → Option Value} (h : MapAt w b n f) (hf : ∀ k, f k = f' k) : MapAt w b n f' := by obtain ⟨D, h1, h2⟩ := h; exact ⟨D, h1, fun k => (h2 k).trans (hf k)⟩
theorem MapAt.set_far (h : MapAt w b n f) {a : Addr} (ha : b ≠ a.block) (u : Value) : MapAt (w.setCell a u) b n f := by obtain ⟨D, h1, h2⟩ := h; exact ⟨D, h1.setCell ha u, h2⟩
theorem MapAt.look {t e : TypeId} (h : MapAt w b n f) (ht : Tryd.prog.underlying t = some (.map 9 e)) {z : Value} (hz : (zeroValue e).run Tryd.prog w = .ok z w) {k : Txt} (hk : k.length ≤ maxLen) :
    (Instr.lookup t (.map (some b)) (txt k) true).run Tryd.prog w = .ok (.tuple #[(f k).getD z, .bool (f k).isSome]) w := by
  obtain ⟨D, h1, h2⟩ := h
  obtain ⟨v, ps, hrun, hv⟩ := h1.look_ok strK ht hz (zd := .held z) (zp := []) rfl (key_txt hk)
  rw [← h2 k]
  unfold heldR at hv
  have hv := congrArg Prod.fst (Option.some.inj hv)
  rcases find_held h1 k with ⟨h3, h4, h5⟩ | ⟨u, h3, h4, h5⟩
  · rw [h3]
    rw [h4] at hrun
    rw [h5] at hv
    obtain rfl : v = z := by simpa using hv
    exact hrun
  · rw [h3]
    rw [h4] at hrun
    rw [h5] at hv
    obtain rfl : v = u := by simpa using hv
    exact hrun
theorem MapAt.look1 {t e : TypeId} (h : MapAt w b n f) (ht : Tryd.prog.underlying t = some (.map 9 e)) {z : Value} (hz : (zeroValue e).run Tryd.prog w = .ok z w) {k : Txt} (hk : k.length ≤ maxLen) :
    (Instr.lookup t (.map (some b)) (txt k) false).run Tryd.prog w = .ok ((f k).getD z) w := by
  obtain ⟨D, h1, h2⟩ := h
  obtain ⟨v, ps, hrun, hv⟩ := h1.lookup strK ht hz (zd := .held z) (zp := []) rfl (key_txt hk)
  rw [← h2 k]
  unfold heldR at hv
  have hv := congrArg Prod.fst (Option.some.inj hv)
  rcases find_held h1 k with ⟨h3, h4, h5⟩ | ⟨u, h3, h4, h5⟩
  · rw [h3]
    rw [h5] at hv
    obtain rfl : v = z := by simpa using hv
    exact hrun
  · rw [h3]
    rw [h5] at hv
    obtain rfl : v = u := by simpa using hv
    exact hrun
def putM (f : Txt → Option Value) (k : Txt) (v : Value) : Txt → Option Value := fun x => if x = k then some v else f x
def delM (f : Txt → Option Value) (k : Txt) : Txt → Option Value := fun x => if x = k then none else f x
theorem MapAt.store {t e : TypeId} (h : MapAt w b n f) (ht : Tryd.prog.underlying t = some (.map 9 e)) (hn : n < maxLen) {k : Txt} (hk : k.length ≤ maxLen) (v : Value) :
    ∃ w', (Instr.mapUpdate t (.map (some b)) (txt k) v).run Tryd.prog w = .ok () w' ∧ MapAt w' b (n + 1) (putM f k v) ∧ w.grownBy w' (some b) ∧ w'.heap.size = w.heap.size := by
  obtain ⟨D, h1, h2⟩ := h
  obtain ⟨w', hrun, r1, r2⟩ := h1.store strK ht hn (key_txt hk) (val := v) (d := .held v) (ps := []) rfl
  refine ⟨w', hrun, ⟨_, r1, fun x => ?_⟩, r2.grown, ?_⟩
  · unfold lookD putM
    by_cases hx : x = k
    · subst hx
      rw [if_pos rfl, atKey_put_same h1.isMap (show WideAt.IsKeyLit (.string _) from trivial)]
    · rw [if_neg hx, atKey_put_other (fun e => hx (by injection e))]
      exact h2 x
  · obtain ⟨es, clock, es', clock', hb, rfl⟩ := r2
    simp [ChangeMaps.setBlock]
theorem MapAt.drop {t e : TypeId} (h : MapAt w b n f) (ht : Tryd.prog.underlying t = some (.map 9 e)) {k : Txt} (hk : k.length ≤ maxLen) (ty : TypeId) :
    ∃ w', (Builtin.delete_ #[t, 9] ty #[.map (some b), txt k]).run Tryd.prog w = .ok (.tuple #[]) w' ∧ MapAt w' b n (delM f k) ∧ w.grownBy w' (some b) ∧ w'.heap.size = w.heap.size := by
  obtain ⟨D, h1, h2⟩ := h
  obtain ⟨w', hrun, r1, r2⟩ := h1.drop strK ht (key_txt hk) ty
  refine ⟨w', hrun, ⟨_, r1, fun x => ?_⟩, r2.grown, ?_⟩
  · unfold lookD delM
    by_cases hx : x = k
    · subst hx
      rw [if_pos rfl, atKey_del_same]
    · rw [if_neg hx, atKey_del_other (fun e => hx (by injection e))]
      exact h2 x
  · obtain ⟨es, clock, es', clock', hb, rfl⟩ := r2
    simp [ChangeMaps.setBlock]
end
section
variable {w : World} {ops : Array Oper} {rest : List Oper} {o : Oper} {a : Act} {Q : Exit → Act → World → Prop}
theorem wpList_look (hg : o.guard = none) (m x : Operand) (t : TypeId) (hop : o.op = Op.lookup t m x true) (e : TypeId) (ht : Tryd.prog.underlying t = some (.map 9 e)) {z : Value} (hz : (zeroValue e).run Tryd.prog w = .ok z w)
    (b n : Nat) (f : Txt → Option Value) (hm : a.eval m = .map (some b)) (h : MapAt w b n f) (k : Txt) (hx : a.eval x = txt k) (hk : k.length ≤ maxLen) (r : Option Value) (hr : f k = r)
    (hK : wpList Tryd.prog ops Q rest (a.put o.dst (.tuple #[r.getD z, .bool r.isSome])) w) : wpList Tryd.prog ops Q (o :: rest) a w := by
  refine wpList_plain hg fun K' hK' => ?_
  have hrun := h.look ht hz hk
  rw [hr] at hrun
  unfold Oper.wp
  simp [execOp, hop, hm, hx, hrun, Result.andThen]
  exact hK' _ _ hK
theorem wpList_look1 (hg : o.guard = none) (m x : Operand) (t : TypeId) (hop : o.op = Op.lookup t m x false) (e : TypeId) (ht : Tryd.prog.underlying t = some (.map 9 e)) {z : Value} (hz : (zeroValue e).run Tryd.prog w = .ok z w)
    (b n : Nat) (f : Txt → Option Value) (hm : a.eval m = .map (some b)) (h : MapAt w b n f) (k : Txt) (hx : a.eval x = txt k) (hk : k.length ≤ maxLen) (r : Option Value) (hr : f k = r)
    (hK : wpList Tryd.prog ops Q rest (a.put o.dst (r.getD z)) w) : wpList Tryd.prog ops Q (o :: rest) a w := by
  refine wpList_plain hg fun K' hK' => ?_
  have hrun := h.look1 ht hz hk
  rw [hr] at hrun
  unfold Oper.wp
  simp [execOp, hop, hm, hx, hrun, Result.andThen]
  exact hK' _ _ hK
theorem wpList_store (hg : o.guard = none) (m x v : Operand) (t : TypeId) (hop : o.op = Op.mapUpdate t m x v) (e : TypeId) (ht : Tryd.prog.underlying t = some (.map 9 e))
    (b n : Nat) (f : Txt → Option Value) (hm : a.eval m = .map (some b)) (h : MapAt w b n f) (hn : n < maxLen) (k : Txt) (u : Value) (hx : a.eval x = txt k) (hk : k.length ≤ maxLen) (hv : a.eval v = u)
    (hK : ∀ w', MapAt w' b (n + 1) (putM f k u) → w.grownBy w' (some b) → w'.heap.size = w.heap.size → wpList Tryd.prog ops Q rest (a.put o.dst undef) w') : wpList Tryd.prog ops Q (o :: rest) a w := by
  refine wpList_plain hg fun K' hK' => ?_
  obtain ⟨w', hrun, r1, r2, r3⟩ := h.store ht hn hk u
  unfold Oper.wp
  simp [execOp, hop, hm, hx, hv, hrun, Result.andThen]
  exact hK' _ _ (hK w' r1 r2 r3)
theorem wpList_drop (hg : o.guard = none) (m x : Operand) (t : TypeId) (hop : o.op = Op.call { callee := Callee.builtin Builtin.delete, args := #[m, x], argTypes := #[t, 9] }) (e : TypeId) (ht : Tryd.prog.underlying t = some (.map 9 e))
    (b n : Nat) (f : Txt → Option Value) (hm : a.eval m = .map (some b)) (h : MapAt w b n f) (k : Txt) (hx : a.eval x = txt k) (hk : k.length ≤ maxLen)
    (hK : ∀ w', MapAt w' b n (delM f k) → w.grownBy w' (some b) → w'.heap.size = w.heap.size → wpList Tryd.prog ops Q rest (a.put o.dst (.tuple #[])) w') : wpList Tryd.prog ops Q (o :: rest) a w := by
  refine wpList_plain hg fun K' hK' => ?_
  obtain ⟨w', hrun, r1, r2, r3⟩ := h.drop ht hk o.type
  unfold Oper.wp
  simp [execOp, hop, resolve, invoke, builtin, hm, hx, hrun, Result.andThen]
  exact hK' _ _ (hK w' r1 r2 r3)
end

/-- A range over the map in block b under way, its state in block r: done are those that came. -/
def RangeAt (w : World) (b r n : Nat) (f : Txt → Option Value) (done : List Txt) (cnt : Nat) : Prop :=
  ∃ D left, w.ranges Tryd.prog 9 heldR b r n D left cnt ∧ (∀ k, lookD D k = f k) ∧ (∀ k, left (.string k) = ((f k).isSome && !done.contains k)) ∧ done.Nodup ∧ ∀ k ∈ done, (f k).isSome = true
section
variable {w w' : World} {b r n cnt : Nat} {f : Txt → Option Value} {done : List Txt}
theorem RangeAt.map (h : RangeAt w b r n f done cnt) : MapAt w b n f := by obtain ⟨D, left, h1, h2, _⟩ := h; exact ⟨D, h1.owns, h2⟩
theorem RangeAt.lt (h : RangeAt w b r n f done cnt) : r < w.heap.size := by obtain ⟨D, left, h1, _⟩ := h; exact h1.lt
theorem RangeAt.kept {row : Option Nat} (h : RangeAt w b r n f done cnt) (hg : w.grownBy w' row) (hb : some b ≠ row) (hr : some r ≠ row) : RangeAt w' b r n f done cnt := by
  obtain ⟨D, left, h1, h2⟩ := h
  exact ⟨D, left, h1.kept hg hb hr, h2⟩
theorem RangeAt.left_eq (h : RangeAt w b r n f done cnt) : w.rangeLeft b r = cnt := by obtain ⟨D, left, h1, _⟩ := h; exact h1.left_eq
end
section
variable {w : World} {ops : Array Oper} {rest : List Oper} {o : Oper} {a : Act} {Q : Exit → Act → World → Prop}
theorem wpList_range_map (hg : o.guard = none) (m : Operand) (t : TypeId) (hop : o.op = Op.range t m) (e : TypeId) (ht : Tryd.prog.underlying t = some (.map 9 e)) (b n : Nat) (f : Txt → Option Value)
    (hm : a.eval m = .map (some b)) (h : MapAt w b n f)
    (hK : ∀ w' cnt, RangeAt w' b w.heap.size n f [] cnt → w.grownBy w' none → w'.heap.size = w.heap.size + 1 → wpList Tryd.prog ops Q rest (a.put o.dst (.pointer (some ⟨w.heap.size, 0, none⟩))) w') :
    wpList Tryd.prog ops Q (o :: rest) a w := by
  obtain ⟨D, h1, h2⟩ := h
  refine wpList_range_own w hg m t hop 9 e strK ht heldR b n D hm h1 fun w' r1 r2 r3 => hK w' _ ⟨D, _, r1, h2, fun k => ?_, .nil, by simp⟩ r2 r3
  rw [← h2 k]
  rcases find_held h1 k with ⟨h3, h4, _⟩ | ⟨v, h3, h4, _⟩
  · rw [h3, h4]; rfl
  · rw [h3, h4]; rfl
set_option maxRecDepth 100000 in
theorem txt_inv {key : Value} {kl : Lit} (h : keyOf Tryd.prog 9 key = some kl) : ∃ k : Txt, key = txt k ∧ kl = .string k ∧ k.length ≤ maxLen := by
  obtain ⟨s, rfl⟩ := Maps.keyOf_string_inv Tryd.underlying9 h
  rw [keyOf_string Tryd.underlying9] at h
  unfold mapKey at h
  rw [Tryd.underlying9] at h
  simp only at h
  split at h
  · rename_i hs
    injection h with h
    exact ⟨s.data.toList, rfl, h.symm, by (show s.data.toList.length ≤ maxLen; rw [Array.length_toList]; exact hs)⟩
  · cases h
theorem wpList_next_map (hg : o.guard = none) (it : Operand) (hop : o.op = Op.next it false) (b r n : Nat) (f : Txt → Option Value) (done : List Txt) (cnt : Nat)
    (hit : a.eval it = .pointer (some ⟨r, 0, none⟩)) (h : RangeAt w b r n f done cnt)
    (hDone : (∀ k, (f k).isSome = true → k ∈ done) → wpList Tryd.prog ops Q rest (a.put o.dst (.tuple #[.bool false])) w)
    (hMore : ∀ (k : Txt) (v : Value) (w' : World) (cnt' : Nat), f k = some v → k ∉ done → k.length ≤ maxLen → RangeAt w' b r n f (k :: done) cnt' → cnt' < cnt → w.grownBy w' (some r) → w'.heap.size = w.heap.size →
      (Instr.entry (.pointer (some ⟨r, 0, none⟩))).run Tryd.prog w' = .ok (.tuple #[txt k, v]) w' → wpList Tryd.prog ops Q rest (a.put o.dst (.tuple #[.bool true, txt k, v])) w') :
    wpList Tryd.prog ops Q (o :: rest) a w := by
  obtain ⟨D, left, h1, h2, h3, h4, h5⟩ := h
  refine wpList_next_ranges w hg it hop 9 strK heldR (fun x : Value => x) (fun v : Value => v) (fun key kl _ => ⟨key, rfl⟩) (fun v _ _ => ⟨v, rfl⟩) b r n D left cnt hit h1 ?_ ?_
  · intro _ hl
    refine hDone fun k hk => ?_
    have := h3 k
    rw [hl, hk] at this
    simpa using this.symm
  · intro key v kl y w' cnt' hkey hlk hv hat hrg hlt hgr hsz hen
    obtain ⟨k, rfl, rfl, hkl⟩ := txt_inv hkey
    have hk3 := h3 k
    rw [hlk] at hk3
    have hk4 := (Bool.and_eq_true _ _).mp hk3.symm
    have hnd : k ∉ done := by simpa using hk4.2
    have hfk : f k = some v := by
      rw [← h2 k]
      unfold lookD
      rw [hat]
      unfold heldR at hv
      rw [← Option.some.inj hv]
    refine hMore k v w' cnt' hfk hnd hkl ⟨D, _, hrg, h2, fun x => ?_, List.nodup_cons.2 ⟨hnd, h4⟩, ?_⟩ hlt hgr hsz hen
    · show (left (.string x) && !(Lit.string x).sameKey (.string k)) = _
      rw [h3 x]
      have e1 : (Lit.string x).sameKey (.string k) = decide (x = k) := by
        by_cases hx : x = k
        · subst hx
          rw [WideAt.sameKey_self (show WideAt.IsKeyLit (.string x) from trivial)]
          simp
        · rw [sameKey_ne (fun e => hx (by injection e))]
          simp [hx]
      rw [e1, List.contains_cons]
      by_cases hx : x = k
      · simp [hx]
      · have hb : (x == k) = false := beq_eq_false_iff_ne.2 hx
        rw [hb]
        simp [hx]
    · intro x hx
      rcases List.mem_cons.1 hx with rfl | hx
      · rw [hfk]; rfl
      · exact h5 x hx
end
end Go.Proofs.YtfccoiofpmhbdaaDoor
