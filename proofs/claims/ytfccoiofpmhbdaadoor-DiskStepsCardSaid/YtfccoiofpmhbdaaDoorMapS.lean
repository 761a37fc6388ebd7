/- A store at a key that is there, into a map that is ranged over. No condition. -/
import Derived.Test.YtfccoiofpmhbdaaDoorMap
namespace Go.Proofs.YtfccoiofpmhbdaaDoor
open Go Go.RowKit Go.Maps Go.WideElems Go.WideMaps Go.ChangeMaps
open Go.WideElems (Fit rd rg pl rd_key rd_val rg_of other_key rd_mk)

section
variable {H : Type} {P : Program} {k : TypeId} {R : Value → Option (DataW H × List MemPlace)} {w : World} {b r n : Nat} {D : DataW H} {left : Lit → Bool} {cnt : Nat}
/-- 'm[k] = v' IN THE ROUND, k being there. -/
theorem ranges_store {t e : TypeId} (h : w.ranges P k R b r n D left cnt) (K : Keyed P k) (ht : P.underlying t = some (.map k e)) {key val : Value} {kl : Lit} (hkey : keyOf P k key = some kl) {yv : DataW H × List MemPlace} (hv : R val = some yv) (hthere : has D kl = true) :
    ∃ w', (Instr.mapUpdate t (.map (some b)) key val).run P w = .ok () w' ∧ w'.ranges P k R b r n (D.put kl yv.1) left cnt ∧ w.grownBy w' (some b) ∧ w'.heap.size = w.heap.size := by
  have hne := h.ne
  obtain ⟨es, clock, since, seen, c0, hb, F, hs, rfl, hr, hold, rfl, hl1, hl2, hsc, hsk⟩ := h
  rcases K.find w hkey es.toList F.keys with ⟨h1, h2⟩ | ⟨j, e0, h1, h2, h3⟩
  · exfalso
    obtain ⟨p, hp, hpk⟩ := List.any_eq_true.1 hthere
    obtain ⟨x, hx, rfl⟩ := List.mem_map.1 (mem_sorted.1 hp)
    obtain ⟨y, hy⟩ := F.reads x hx
    rw [rg_of hy] at hpk
    have e1 := WideAt.sameKey_eq hpk
    exact h2 x hx (K.inj (e1 ▸ rd_key hy) hkey)
  · have hj : es[j]? = some e0 := by simpa using h2
    have hjl : j < es.toList.length := (List.getElem?_eq_some_iff.1 h2).1
    have hkeyf : ∀ e', es[j]? = some e' → ({ e' with key := key, val := val } : MapEntry).key = e'.key := fun e' he' => by rw [hj] at he'; cases he'; exact h3.symm
    have hlist : (es.modify j (fun e' => { e' with key := key, val := val })).toList = es.toList.set j { e0 with key := key, val := val } := by rw [Array.toList_modify, modify_eq_set _ _ _ _ h2]
    have who : ∀ x ∈ es.toList.set j { e0 with key := key, val := val }, x = { e0 with key := key, val := val } ∨ (x ∈ es.toList ∧ x.key ≠ key) := by
      intro x hx
      obtain ⟨i, hi, ex⟩ := List.getElem_of_mem hx
      rw [List.getElem_set] at ex
      split at ex
      · exact Or.inl ex.symm
      · rename_i hne
        have hi' : i < es.toList.length := by simpa using hi
        refine Or.inr ⟨ex ▸ List.getElem_mem hi', ?_⟩
        rw [← h3]
        exact other_key F h2 (by rw [List.getElem?_eq_getElem hi', ex]) (fun e1 => hne e1.symm)
    have he0 : e0 ∈ es.toList := List.mem_of_getElem? h2
    have hrgn : rg P k R { e0 with key := key, val := val } = (kl, yv.1) := rg_of (rd_mk hkey hv)
    have hrg0 : (rg P k R e0).1 = kl := by
      obtain ⟨y, hy⟩ := F.reads e0 he0
      rw [rg_of hy]
      have := rd_key hy
      rw [h3, hkey] at this
      exact (Option.some.inj this).symm
    have hF : Fit P k R (es.modify j (fun e' => { e' with key := key, val := val })) clock := ⟨by simpa using F.size, MapKept.stamped_modify F.stamped _ _ (fun _ _ => rfl) (fun e' _ he' => hkeyf e' he'), fun x hx => by
      rw [hlist] at hx
      rcases who x hx with rfl | ⟨hx', _⟩
      · exact ⟨_, rd_mk hkey hv⟩
      · exact F.reads x hx'⟩
    have hput : ((es.modify j (fun e' => { e' with key := key, val := val })).toList.map (rg P k R)).foldr DataW.insert [] = putKey kl yv.1 ((es.toList.map (rg P k R)).foldr DataW.insert []) := by
      refine sorted_put K.one ⟨key, hkey⟩ (fit_keys F) (fit_apart K F) ?_
      rw [filter_one K F hkey h2 h3, hlist, List.map_set, hrgn]
      exact set_perm _ _ (by simpa using hjl) _
    refine ⟨setBlock w b (.map (es.modify j (fun e' => { e' with key := key, val := val })) clock), ?_, ⟨_, clock, since, seen, c0, heap_setBlock_same hb _, hF, by simpa using hs, by rw [DataW.put_eq, hput], (heap_setBlock_other hb _ hne).trans hr, fun x hx => ?_, ?_, fun x hx => ?_, fun kl' hkl' => ?_, hsc, hsk⟩, ⟨rfl, rfl, rfl, by simp [setBlock], fun i _ hi => heap_setBlock_other hb _ (fun e => hi (by rw [e]))⟩, by simp [setBlock]⟩
    · simp [Instr.mapUpdate, run_underlying ht, MapKept.run_getObj_map hb, K.check w false hkey, h1, hj, h3, K.stays w hkey, MapKept.run_setObj_map _ hb, Result.andThen, setBlock]
    · rw [hlist] at hx
      rcases who x hx with rfl | ⟨hx', _⟩
      · exact hold e0 he0
      · exact hold x hx'
    · have e1 : ∀ a : Array MapEntry, (leftOf a seen).size = ((a.toList.map (·.born)).filter fun x => !seen.contains x).length := fun a => by
        unfold leftOf
        rw [← Array.length_toList, Array.toList_filter, List.filter_map, List.length_map]
        rfl
      rw [e1, e1, hlist, List.map_set]
      have e2 : (es.toList.map (·.born)).set j e0.born = es.toList.map (·.born) := by
        refine List.ext_getElem? fun i => ?_
        by_cases hi : j = i
        · subst hi
          rw [List.getElem?_set_self (by simpa using hjl), List.getElem?_map, h2]
          rfl
        · rw [List.getElem?_set_ne hi]
      exact congrArg (fun l => (List.filter (fun x => !seen.contains x) l).length) e2
    · rw [hlist] at hx
      rcases who x hx with rfl | ⟨hx', _⟩
      · rw [hrgn]
        show left kl = _
        rw [← hrg0]
        exact hl1 e0 he0
      · exact hl1 x hx'
    · obtain ⟨x, hx, rfl⟩ := hl2 kl' hkl'
      by_cases hxk : x.key = key
      · refine ⟨{ e0 with key := key, val := val }, ?_, ?_⟩
        · rw [hlist]
          exact List.mem_iff_getElem.2 ⟨j, by simpa using hjl, by simp⟩
        · rw [hrgn]
          obtain ⟨y, hy⟩ := F.reads x hx
          rw [rg_of hy]
          have := rd_key hy
          rw [hxk, hkey] at this
          exact Option.some.inj this
      · refine ⟨x, ?_, rfl⟩
        obtain ⟨i, hi⟩ := List.getElem?_of_mem hx
        rw [hlist]
        refine List.mem_of_getElem? (i := i) ?_
        rw [List.getElem?_set_ne (fun e => hxk (by rw [← e, h2] at hi; exact (Option.some.inj hi) ▸ h3))]
        exact hi
end
theorem RangeAt.store {w : World} {b r n cnt : Nat} {f : Txt → Option Value} {done : List Txt} (h : RangeAt w b r n f done cnt) {t e : TypeId} (ht : Tryd.prog.underlying t = some (.map 9 e)) {k : Txt} (hk : k.length ≤ maxLen) (hf : (f k).isSome = true) (v : Value) :
    ∃ w', (Instr.mapUpdate t (.map (some b)) (txt k) v).run Tryd.prog w = .ok () w' ∧ RangeAt w' b r n (putM f k v) done cnt ∧ w.grownBy w' (some b) ∧ w'.heap.size = w.heap.size := by
  obtain ⟨D, left, h1, h2, h3, h4, h5⟩ := h
  have hhas : has D (.string k) = true := by
    rcases find_held h1.owns k with ⟨h6, _, _⟩ | ⟨v, _, h7, _⟩
    · rw [← h2 k, h6] at hf; cases hf
    · exact h7
  obtain ⟨w', hrun, r1, r2, r3⟩ := ranges_store h1 strK ht (key_txt hk) (val := v) (yv := (.held v, [])) rfl hhas
  have e1 : ∀ x, (putM f k v x).isSome = (f x).isSome := fun x => by
    unfold putM
    split
    · rename_i hx; subst hx; rw [hf]; rfl
    · rfl
  refine ⟨w', hrun, ⟨_, left, r1, fun x => ?_, fun x => by rw [h3 x, e1], h4, fun x hx => by rw [e1]; exact h5 x hx⟩, r2, r3⟩
  unfold lookD putM
  by_cases hx : x = k
  · subst hx
    rw [if_pos rfl, atKey_put_same h1.owns.isMap (show WideAt.IsKeyLit (.string _) from trivial)]
  · rw [if_neg hx, atKey_put_other (fun e => hx (by injection e))]
    exact h2 x
section
variable {w : World} {ops : Array Oper} {rest : List Oper} {o : Oper} {a : Act} {Q : Exit → Act → World → Prop}
theorem wpList_store_range (hg : o.guard = none) (m x v : Operand) (t : TypeId) (hop : o.op = Op.mapUpdate t m x v) (e : TypeId) (ht : Tryd.prog.underlying t = some (.map 9 e))
    (b r n cnt : Nat) (f : Txt → Option Value) (done : List Txt) (hm : a.eval m = .map (some b)) (h : RangeAt w b r n f done cnt) (k : Txt) (u : Value) (hx : a.eval x = txt k) (hk : k.length ≤ maxLen) (hf : (f k).isSome = true) (hv : a.eval v = u)
    (hK : ∀ w', RangeAt w' b r n (putM f k u) done cnt → w.grownBy w' (some b) → w'.heap.size = w.heap.size → wpList Tryd.prog ops Q rest (a.put o.dst undef) w') : wpList Tryd.prog ops Q (o :: rest) a w := by
  refine wpList_plain hg fun K' hK' => ?_
  obtain ⟨w', hrun, r1, r2, r3⟩ := h.store ht hk hf u
  unfold Oper.wp
  simp [execOp, hop, hm, hx, hv, hrun, Result.andThen]
  exact hK' _ _ (hK w' r1 r2 r3)
end
end Go.Proofs.YtfccoiofpmhbdaaDoor
