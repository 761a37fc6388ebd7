/- Disk.Crash, whatever is chosen by a function that leaves the disk alone. Condition: not too many bytes; of no file are more bytes kept than it has. -/
import Derived.Test.YtfccoiofpmhbdaaDoorNames
import Derived.IntWalk
namespace Go.Proofs.YtfccoiofpmhbdaaDoor
open Go Go.Proofs Go.RowKit

/-- What is left of one file. -/
def crash1 (ch : Txt → Nat → Nat) (k : Txt) (x : List UInt8 × Nat) : List UInt8 × Nat := (x.1.take (x.2 + ch k (x.1.length - x.2) % (x.1.length - x.2 + 1)), x.2 + ch k (x.1.length - x.2) % (x.1.length - x.2 + 1))
def crashF (F : Files) (ch : Txt → Nat → Nat) : Files := fun k => (F k).map (crash1 ch k)
def crashP (F : Files) (ch : Txt → Nat → Nat) (done : List Txt) : Files := fun k => if k ∈ done then (F k).map (crash1 ch k) else F k
def KeptOk (F : Files) : Prop := ∀ k bs kept, F k = some (bs, kept) → kept ≤ bs.length
theorem crashP_nil (F : Files) (ch) : crashP F ch [] = F := by funext k; simp [crashP]
theorem crashP_snoc (F : Files) (ch) (done : List Txt) (k : Txt) (x) (hk : F k = some x) (hn : k ∉ done) : crashP F ch (done ++ [k]) = putF (crashP F ch done) k (crash1 ch k x) := by
  funext y
  unfold crashP putF
  by_cases hy : y = k
  · subst hy
    simp [hk]
  · simp [hy]
theorem crashP_all (F : Files) (ch) {L : List Txt} (h : ∀ k, (F k).isSome = true → k ∈ L) : crashP F ch L = crashF F ch := by
  funext k
  unfold crashP crashF
  split
  · rfl
  · rename_i hn
    cases hF : F k with
    | none => rfl
    | some x => exact absurd (h k (by rw [hF]; rfl)) hn
/-- The function that is asked leaves the disk alone, and the blocks of R; I says what it keeps; J: which older blocks it may change. -/
structure Asks (g : Nat) (lb : Array Value) (C J : Nat → Prop) (F : Files) (ch : Txt → Nat → Nat) (I : (Nat → Prop) → List Txt → World → Prop) (w : World) : Prop where
  eg : ∀ args w, (callFunc g args).run Tryd.prog w = .ok (.enter g args) w
  jc : ∀ b, J b → ¬ C b
  jlt : ∀ b, J b → b < w.heap.size
  start : ∀ (W : World) (R : Nat → Prop), Below w.heap.size w W → (∀ b, R b → w.heap.size ≤ b ∧ b < W.heap.size) → I R [] W
  stab : ∀ R done W W', I R done W → Mod C W W' → I R done W'
  call : ∀ R done W k bs kept, I R done W → F k = some (bs, kept) → kept ≤ bs.length → bs.length ≤ 1000000000 → k.length ≤ maxLen → done.length < 1000000000 → Calls Tryd.prog g (#[txt k, .int .i64 ((bs.length : Int) - (kept : Int))] ++ lb) W fun e W' => e = .returned (.int .i64 (ch k (bs.length - kept))) ∧ I R (done ++ [k]) W' ∧ Mod (fun b => J b ∨ (w.heap.size ≤ b ∧ ¬ R b)) W W'
def RetCrash (w : World) (C J : Nat → Prop) (N a pw : Nat) (room : Int) (F : Files) (ch : Txt → Nat → Nat) (I : (Nat → Prop) → List Txt → World → Prop) (e : Ending) (w' : World) : Prop :=
  e = .returned (.tuple #[]) ∧ ∃ R L, NamesAre (fun k => (F k).isSome) L ∧ I R L w' ∧ DiskAt w' C N a pw room (crashF F ch) ∧ Mod (fun b => C b ∨ J b) w w'
theorem putF_twice (F : Files) (k : FName) (x y) : putF (putF F k x) k y = putF F k y := funext fun z => by unfold putF; split <;> rfl
theorem cut_end2 {w2 : World} {C : Nat → Prop} {N a pw mb : Nat} {room : Int} {F : Files} {P : FName → Nat} {V : FName → Value} {k : FName} {bs : List UInt8} {m c : Nat} {A : Option Addr} (hD2 : DiskIn w2 C N a pw mb room F P V) (hF : F k = some (bs, m)) (hV : V k = .slice A bs.length c) (hm : m ≤ bs.length) :
    DiskAt ((w2.setCell ⟨P k, 0, none⟩ (.slice A m m)).drew) C N a pw room (putF F k (bs.take m, m)) := by
  have hD3 := hD2
  obtain ⟨f1, f2, f3, f4⟩ := hD3.file k bs m hF
  have hlen : (bs.take m).length = m := by rw [List.length_take]; omega
  have hrow : RowW w2 5 (.slice A m m) (bs.take m).length (bv (bs.take m)) := by
    rw [hlen, bv_take]
    exact f2.cut hm hV
  have hown : ∀ g, (Value.slice A m m).ownBlock = some g → (V k).ownBlock = some g := fun g hg => by
    rw [hV]
    cases A with
    | none => cases hg
    | some ad => exact hg
  have h1 := hD3.setData hF (Mod.refl _ _) hrow (fun g hg => .inl (hown g hg))
  have eC : (fun b => C b ∨ (Value.slice A m m).ownBlock = some b) = C := funext fun b => propext ⟨fun h => h.elim id (fun h => f4 b (hown b h)), .inl⟩
  rw [eC] at h1
  exact DiskAt.drew ⟨mb, P, _, h1⟩
set_option maxHeartbeats 4000000 in
set_option maxRecDepth 100000 in
theorem crashD (g : Nat) (lb : Array Value) (C J : Nat → Prop) (N a pw t : Nat) (room : Int) (F : Files) (ch : Txt → Nat → Nat) (I : (Nat → Prop) → List Txt → World → Prop) (w : World) (h : DiskAt w C N a pw room F) (hN : N ≤ 1000000000) (hA : Asks g lb C J F ch I w)
    (hK : KeptOk F) (ht : Total F t) (htb : t ≤ 1000000000) (hch : ∀ k n, n ≤ 1000000000 → ch k n ≤ 1000000000000000000) :
    Calls Tryd.prog 17 #[.pointer (some ⟨a, 0, none⟩), .func (.func g) #[] lb] w (RetCrash w C J N a pw room F ch I) := by
  have hD := Lib.hid h
  have hT := Lib.hid ht
  have HA := Lib.hid hA
  have HK := Lib.hid hK
  have HCH := Lib.hid hch
  clear h ht hA hK hch
  go_enter Tryd.func17, Tryd.ntmps17
  go_wp2_with (fail)
  refine (namesD C N a pw room F w hD.out hN).mono ?_
  rintro e w1 ⟨v, L, A, c, hL, hlen, rfl, rfl, hown, hb1⟩
  have hD1 := hD.out.below hb1
  have hcells : Hid (∀ (k : Nat) (x : Txt), L[k]? = some x → ∃ q, A = some ⟨q, 0, none⟩ ∧ w.heap.size ≤ q ∧ q < w1.heap.size ∧ w1.cell? ⟨q, k, none⟩ = some (txt x)) := Lib.hid (fun k x hx => by
    have hk := (List.getElem?_eq_some_iff.1 hx).1
    obtain ⟨q, hq, h1, h2, h3⟩ := owns_at hown (by omega)
    exact ⟨q, hq, h1, h2, h3 k _ (by rw [List.getElem?_map, hx]; rfl)⟩)
  have hI0 : Hid (I (fun b => ∃ ad, A = some ad ∧ ad.block = b ∧ b < w1.heap.size ∧ w.heap.size ≤ b) [] w1) := Lib.hid (HA.out.start w1 _ hb1 (by rintro b ⟨ad, _, _, h1, h2⟩; exact ⟨h2, h1⟩))
  have HL := Lib.hid hL
  generalize hn : L.length = n at *
  have HN := Lib.hid hn
  clear hn hown hL
  go_wp2_with (fail)
  obtain ⟨R, hRe⟩ : ∃ R : Nat → Prop, R = (fun b => ∃ ad, A = some ad ∧ ad.block = b ∧ b < w1.heap.size ∧ w.heap.size ≤ b) := ⟨_, rfl⟩
  rw [← hRe] at hI0
  have hRC : Hid (∀ b, C b → ¬ R b) := Lib.hid (fun b hb hr => by rw [hRe] at hr; obtain ⟨_, _, _, _, h⟩ := hr; have := hD.out.lt hb; omega)
  have hRJ : Hid (∀ b, J b → ¬ R b) := Lib.hid (fun b hb hr => by rw [hRe] at hr; obtain ⟨_, _, _, _, h⟩ := hr; have := HA.out.jlt b hb; omega)
  have hRA : Hid (∀ q, A = some ⟨q, 0, none⟩ → q < w1.heap.size → w.heap.size ≤ q → R q) := Lib.hid (fun q hq h1 h2 => by rw [hRe]; exact ⟨_, hq, rfl, h1, h2⟩)
  have HD1 := Lib.hid hD1
  clear hRe hD1
  go_loopw [5, 6, 7, 8, 12] (fun _ _ _ _ i wr => ∃ k : Nat, k ≤ n ∧ i = .int .i64 k ∧ Hid (I R (L.take k) wr ∧ DiskAt wr C N a pw room (crashP F ch (L.take k)) ∧ Mod (fun b => C b ∨ J b ∨ (w.heap.size ≤ b ∧ ¬ R b)) w1 wr)) (fun _ _ _ _ i _ => n - (intOf i).toNat)
  case atStart => exact ⟨0, Nat.zero_le _, rfl, Lib.hid ⟨hI0.out, by rw [List.take_zero, crashP_nil]; exact HD1.out, Mod.refl _ _⟩⟩
  case round =>
    obtain ⟨k, hk, rfl, hst⟩ := hrel
    clear hI0 HD1
    by_cases hlt : k < n
    · obtain ⟨x, hx⟩ : ∃ x, L[k]? = some x := ⟨L[k]'(by rw [HN.out]; omega), List.getElem?_eq_getElem _⟩
      obtain ⟨q, hq, hq1, hq2, hq3⟩ := hcells.out k x hx
      obtain ⟨hI, hDk, hMk⟩ := hst.out
      have hxL := List.mem_of_getElem? hx
      obtain ⟨⟨bs, kept⟩, hFx⟩ := Option.isSome_iff_exists.1 ((HL.out.mem x).1 hxL)
      have hnot : x ∉ L.take k := by
        have hnd := HL.out.nodup
        intro hm
        obtain ⟨j, hj⟩ := List.mem_iff_getElem?.1 hm
        rw [List.getElem?_take] at hj
        split at hj
        · rename_i hjk
          obtain ⟨h1, h2⟩ := List.getElem?_eq_some_iff.1 hj
          obtain ⟨h3, h4⟩ := List.getElem?_eq_some_iff.1 hx
          exact List.pairwise_iff_getElem.1 hnd j k h1 h3 (by omega) (h2.trans h4.symm)
        · cases hj
      have hF' : crashP F ch (L.take k) x = some (bs, kept) := by unfold crashP; rw [if_neg hnot]; exact hFx
      have hkept := HK.out x bs kept hFx
      have hlen2 : bs.length ≤ t := by have := hT.out.one x; simpa [lenF, hFx] using this
      have hsn := crashP_snoc F ch (L.take k) x (bs, kept) hFx hnot
      have htk : L.take (k + 1) = L.take k ++ [x] := by
        rw [List.take_add_one, hx]
        rfl
      rw [← htk] at hsn
      obtain ⟨mb, P, V, hDk⟩ := hDk
      have dn : wr.cell? ⟨q, k, none⟩ = some (txt x) := hMk.cellv hq3 (fun h => by
        have hR := hRA.out q hq hq2 hq1
        rcases h with h | h | h
        · exact hRC.out _ h hR
        · exact hRJ.out _ h hR
        · exact h.2 hR)
      have c1 : wr.cell? ⟨a, 1, none⟩ = some (.map (some mb)) := by rw [cell_of_blk hDk.disk 1]; rfl
      obtain ⟨f1, f2, f3, f4⟩ := hDk.file x bs kept hF'
      obtain ⟨A', c', hV, hc⟩ := f2.form
      have d0 : wr.cell? ⟨P x, 0, none⟩ = some (.slice A' bs.length c') := by rw [cell_of_blk f1]; exact congrArg some hV
      have d1 : wr.cell? ⟨P x, 1, none⟩ = some (.int .i64 kept) := by rw [cell_of_blk f1]; rfl
      have HR : Hid ((Option.map (fun _ => Value.pointer (some ⟨P x, 0, none⟩)) (crashP F ch (L.take k) x)) = some (.pointer (some ⟨P x, 0, none⟩))) := Lib.hid (by rw [hF']; rfl)
      have hxl := hDk.map.klen (v := .pointer (some ⟨P x, 0, none⟩)) HR.out
      have HM := Lib.hid hDk.map
      have HDk := Lib.hid hDk
      have HI := Lib.hid hI
      have HMk := Lib.hid hMk
      have HF' := Lib.hid hF'
      have HSN := Lib.hid hsn
      have HTK := Lib.hid htk
      have HFx := Lib.hid hFx
      have hin0 : (0 : Int) ≤ (k : Int) := by omega
      have hin1 : (k : Int) < (n : Int) := by omega
      have hkz : (kept : Int) ≤ (bs.length : Int) := by omega
      have hwz : IntKind.i64.wrap ((bs.length : Int) - (kept : Int)) = (bs.length : Int) - (kept : Int) := IntWalk.i64_in _ (by omega)
      subst hq
      clear hst hx hI hDk hMk hxL hFx hnot hF' hsn htk f1 f2 hV hq3
      go_wp2_with (at_lookup; (refine wpList_look1 rfl _ _ 69 rfl 75 Tryd.underlying69 (zeroFile _) mb N _ rfl HM.out x rfl hxl _ HR.out ?_))
      go_quiet (fail)
      have heg := HA.out.eg
      go_wp2_with (fail)
      have hI4 := HA.out.stab R (L.take k) wr (wr.drewN nq) HI.out ((Mod.refl _ _).drewN _)
      refine (HA.out.call R (L.take k) (wr.drewN nq) x bs kept hI4 HFx.out hkept (by omega) hxl (by rw [List.length_take]; omega)).mono ?_
      rintro e w4 ⟨rfl, hI5, hm4⟩
      have hDk4 : DiskIn w4 C N a pw mb room (crashP F ch (L.take k)) P V := (HDk.out.mod (G := fun _ => False) ((Mod.refl _ _).drewN nq) (fun _ _ h => h)).mod hm4 (fun b hb h => by rcases h with h | h; exact HA.out.jc b h hb; have := hD.out.lt hb; omega)
      obtain ⟨f1, f2, _, _⟩ := hDk4.file x bs kept HF'.out
      obtain ⟨A2, c2, hV2, hc2⟩ := f2.form
      have d0' : w4.cell? ⟨P x, 0, none⟩ = some (.slice A2 bs.length c2) := by rw [cell_of_blk f1]; exact congrArg some hV2
      have d1' : w4.cell? ⟨P x, 1, none⟩ = some (.int .i64 kept) := by rw [cell_of_blk f1]; rfl
      have q0 := frozen_of_blk f1 0
      have q1 := frozen_of_blk f1 1
      obtain ⟨lz, hlz⟩ : ∃ lz, lz = bs.length - kept := ⟨_, rfl⟩
      have hlz' : (bs.length : Int) - (kept : Int) = (lz : Int) := by omega
      rw [hlz', ← hlz]
      obtain ⟨cz, hcz⟩ : ∃ cz, cz = ch x lz := ⟨_, rfl⟩
      have hcb := HCH.out x lz (by omega)
      rw [← hcz] at hcb ⊢
      obtain ⟨r, hr⟩ : ∃ r, r = cz % (lz + 1) := ⟨_, rfl⟩
      have hr1 : r ≤ lz := by rw [hr]; have := Nat.mod_lt cz (show 0 < lz + 1 by omega); omega
      have hr2 : (cz : Int) % ((lz : Int) + 1) = (r : Int) := by rw [hr]; push_cast; rfl
      have hlzb : (lz : Int) ≤ 1000000000 := by omega
      have hr3 : (r : Int) ≤ (lz : Int) := by omega
      have hcb2 : (cz : Int) ≤ 1000000000000000000 := by omega
      have hkr : kept + r ≤ bs.length := by omega
      have hkr2 : (kept : Int) + (r : Int) ≤ (bs.length : Int) := by omega
      have hcap : kept + r ≤ c2 := by omega
      have hcap2 : (kept : Int) + (r : Int) ≤ (c2 : Int) := by omega
      have HDk4 := Lib.hid hDk4
      have HV2 := Lib.hid hV2
      have HI5 := Lib.hid hI5
      have HM4 := Lib.hid hm4
      have HLZ := Lib.hid hlz
      have HCZ := Lib.hid hcz
      have HRR := Lib.hid hr
      clear hI4 hI5 hm4 hDk4 f1 f2 hV2 hlz hlz' hcz hr d0 d1 dn c1 hwz hkz
      go_wp2_with (fail)
      have hD5 : DiskIn (w4.setCell ⟨P x, 1, none⟩ (.int .i64 ((kept : Int) + (r : Int)))) C N a pw mb room (putF (crashP F ch (L.take k)) x (bs, kept + r)) P V := by
        have := HDk4.out.setKept HF'.out (kept + r)
        rwa [show ((kept + r : Nat) : Int) = (kept : Int) + (r : Int) from by omega] at this
      have hm45 : Mod C w4 (w4.setCell ⟨P x, 1, none⟩ (.int .i64 ((kept : Int) + (r : Int)))) := (Mod.refl _ _).setCell (p := ⟨P x, 1, none⟩) (fun _ => f3) _
      clear d0' d1' q0 q1
      generalize w4.setCell ⟨P x, 1, none⟩ (.int .i64 ((kept : Int) + (r : Int))) = w5 at *
      obtain ⟨f1, f2, _, _⟩ := hD5.file x bs (kept + r) (putF_same _ _ _)
      have d0' : w5.cell? ⟨P x, 0, none⟩ = some (.slice A2 bs.length c2) := by rw [cell_of_blk f1]; exact congrArg some HV2.out
      have d1' : w5.cell? ⟨P x, 1, none⟩ = some (.int .i64 ((kept : Int) + (r : Int))) := by rw [cell_of_blk f1]; show some (Value.int .i64 ((kept + r : Nat) : Int)) = _; rw [show ((kept + r : Nat) : Int) = (kept : Int) + (r : Int) from by omega]
      have q0 := frozen_of_blk f1 0
      have HE := Lib.hid (cut_end2 hD5 (putF_same _ _ _) HV2.out hkr)
      have HM45 := Lib.hid hm45
      clear hD5 f1 hm45
      have hend : Hid (I R (L.take (k + 1)) (w5.setCell ⟨P x, 0, none⟩ (.slice A2 (kept + r) (kept + r))).drew ∧ DiskAt (w5.setCell ⟨P x, 0, none⟩ (.slice A2 (kept + r) (kept + r))).drew C N a pw room (crashP F ch (L.take (k + 1))) ∧ Mod (fun b => C b ∨ J b ∨ (w.heap.size ≤ b ∧ ¬ R b)) w1 (w5.setCell ⟨P x, 0, none⟩ (.slice A2 (kept + r) (kept + r))).drew) := by
        have hm56 : Mod C w5 (w5.setCell ⟨P x, 0, none⟩ (.slice A2 (kept + r) (kept + r))).drew := ((Mod.refl _ _).setCell (p := ⟨P x, 0, none⟩) (fun _ => f3) _).drew
        refine Lib.hid ⟨?_, ?_, ?_⟩
        · rw [HTK.out]
          exact HA.out.stab _ _ _ _ (HA.out.stab _ _ _ _ HI5.out HM45.out) hm56
        · rw [HSN.out]
          have e1 : crash1 ch x (bs, kept) = (bs.take (kept + r), kept + r) := by
            unfold crash1
            simp only
            rw [← HLZ.out, ← HCZ.out, ← HRR.out]
          rw [e1]
          have h := HE.out
          rwa [putF_twice] at h
        · exact ((((HMk.out.drewN nq).trans HM4.out (fun b _ h => .inr h)).trans HM45.out (fun b _ h => .inl h)).trans hm56 (fun b _ h => .inl h))
      cases A2 with
      | none =>
        have hb0 : bs.length = 0 := by
          rcases f2.2 with ⟨_, h⟩ | ⟨g, cap, cur, h, _⟩
          · exact h
          · rw [HV2.out] at h; cases h
        obtain rfl : kept = 0 := by omega
        obtain rfl : r = 0 := by omega
        clear f2
        go_region
        all_goals
          go_wp2_with (fail)
          exact ⟨⟨k + 1, by omega, by go_num, hend⟩, by simp [intOf]; omega⟩
      | some ad =>
        clear f2
        go_region
        all_goals
          go_wp2_with (fail)
          exact ⟨⟨k + 1, by omega, by go_num, hend⟩, by simp [intOf]; omega⟩
    · obtain rfl : k = n := by omega
      obtain ⟨hI, hDk, hMk⟩ := hst.out
      rw [List.take_of_length_le (by rw [HN.out]; exact Nat.le_refl _)] at hI hDk
      rw [crashP_all F ch (fun k h => (HL.out.mem k).2 h)] at hDk
      have HF := Lib.hid (show RetCrash w C J N a pw room F ch I (.returned (.tuple #[])) wr from ⟨rfl, R, L, HL.out, hI, hDk, (Mod.of_below hb1).trans hMk (fun b hb h => by rcases h with h | h | h; exact .inl h; exact .inr h; omega)⟩)
      clear hI hDk hMk hst
      go_wp2_with (fail)
      go_end0
      exact HF.out
end Go.Proofs.YtfccoiofpmhbdaaDoor
