/- selionlaw04.M.Same: the disk is as the law's own. Condition: both are as told. -/
import Derived.Test.YtfccoiofpmhbdaaDoorM4e
namespace Go.Proofs.YtfccoiofpmhbdaaDoor
open Go Go.Proofs Go.RowKit

/-- Read, whether the file is there or not. -/
theorem dsReadAny (B : Nat) (C : Nat → Prop) (nb a pw t : Nat) (l u room : Int) (F : Files) (k : Txt) (w : World) (h : DS B w C nb a pw l u room F t) (hk : k.length ≤ maxLen) :
    Calls Tryd.prog 19 #[.pointer (some ⟨a, 0, none⟩), txt k] w fun e w' => ∃ A c, e = .returned (.tuple #[.slice A (dataF F k).length c, .bool (F k).isSome]) ∧ Reads w' w'.heap.size 1 A (dataF F k).length (bv (dataF F k)) ∧ Below w.heap.size w w' := by
  cases hF : F k with
  | none =>
    refine (dsReadNone B C nb a pw t l u room F k w h hk hF).mono ?_
    rintro e w' ⟨rfl, rfl⟩
    have e0 : dataF F k = [] := by simp [dataF, hF]
    rw [e0]
    exact ⟨none, 0, rfl, Reads.none_, Below.refl _ _⟩
  | some x =>
    obtain ⟨bs, kept⟩ := x
    refine (dsRead B C nb a pw t l u room F k bs kept w h hk hF).mono ?_
    rintro e w' ⟨v, A, c, rfl, rfl, h1, _, h3⟩
    rw [dataF_of hF]
    exact ⟨A, c, rfl, h1.reads, h3⟩
/-- What the model's map answers for a name. -/
theorem ModIn.look {w : World} {D : Nat → Prop} {N mp mb : Nat} {room : Int} {F : Files} {V : FName → Value} (h : ModIn w D N mp mb room F V) (k : FName) :
    ∃ A c, (((F k).map fun x => fileV (V k) x.2).getD (.agg #[.slice none 0 0, .int .i64 0])) = .agg #[.slice A (dataF F k).length c, .int .i64 (keptF F k)] ∧ Reads w w.heap.size 1 A (dataF F k).length (bv (dataF F k)) := by
  cases hF : F k with
  | none =>
    have e0 : dataF F k = [] := by simp [dataF, hF]
    have e1 : keptF F k = 0 := by simp [keptF, hF]
    rw [e0, e1]
    exact ⟨none, 0, rfl, Reads.none_⟩
  | some x =>
    obtain ⟨bs, kept⟩ := x
    obtain ⟨hrow, _⟩ := h.file k bs kept hF
    obtain ⟨A, c, hV, _⟩ := hrow.form
    rw [dataF_of hF, keptF_of hF]
    exact ⟨A, c, by simp [fileV, hV], by rw [hV] at hrow; exact hrow.reads⟩
set_option maxHeartbeats 4000000 in
set_option maxRecDepth 100000 in
theorem sameM (B B' nb a pw t N mp mb : Nat) (C D : Nat → Prop) (l u room : Int) (F : Files) (w : World) (h : Both B w C D nb N a pw mp mb l u room F t) (hn : NamesLaid w B') (hB' : B' ≤ w.heap.size) (hN : N ≤ 1000000) :
    Calls Tryd.prog 8 #[.pointer (some ⟨mp, 0, none⟩), .pointer (some ⟨a, 0, none⟩)] w fun e w' => e = .returned (.bool true) ∧ Below w.heap.size w w' := by
  obtain ⟨na, nc, hn1, hn2, hn3⟩ := hn.at_
  have htm : t ≤ 1000000 := by have := h.ds.t1; have := h.ds.r1; omega
  obtain ⟨V, hm⟩ := h.md
  have c0 : w.cell? ⟨mp, 0, none⟩ = some (.map (some mb)) := hm.c0
  have hmp := lt_of_heap hm.top
  have HD := Lib.hid h.ds
  have HM := Lib.hid hm
  have HN3 := Lib.hid hn3
  have hlt := hn.lt
  clear h hm hn3 hn
  go_enter Tryd.func8, Tryd.ntmps8
  go_wp2_with (fail)
  go_region_held3 (fun w' => w'.cell? ⟨mp, 0, none⟩ = some (.map (some mb))) (first | exact cellk HB5.out hmp c0 | exact cellk HB4.out hmp c0 | exact cellk HB3.out hmp c0 | exact cellk HB2.out hmp c0 | exact calloc (cellk HB1.out hmp c0) _ | exact cellk HB1.out hmp c0 | exact c0 | go_keep) ((first
    | (go_at_call 31; refine (dsNames B C nb a pw t l u room F w.drew (HD.out.below ((Below.refl _ _).drew))).mono ?_; rintro e w1 ⟨v1, L1, A1, c1, hna1, hll1, rfl, rfl, hown1, hb1⟩; have HB1 := Lib.hid (((Below.refl w.heap.size w).drew).trans hb1); have HR1 := Lib.hid (Reads.of_own hown1); have HA1 := Lib.hid hna1; clear hown1 hb1 hna1)
    | (go_at_call 30; refine (callsIn_wide.1 (Tryd.maps_Keys_30 _ _)).mono ?_; rintro e wk ⟨rfl, rfl⟩)
    | (go_at_call 29; refine (sortM mb N _ w1 ((HM.out.below HB1.out).map) (by omega)).mono ?_; rintro e w2 ⟨L2, A2, c2, hna2, hll2, rfl, hown2, hb2⟩; have HB2 := Lib.hid (HB1.out.trans (hb2.mono HB1.out.size)); have HR1' := Lib.hid (HR1.out.below hb2); have HR2 := Lib.hid (Reads.of_own hown2); have HEQ := Lib.hid (HA1.out.unique hna2 (fun k => by simp [Option.isSome_map])); clear hown2 hb2 hna2)
    | (go_at_call 28; refine (equalS true A1 A2 L1.length c1 L2.length c2 w1.heap.size w2.heap.size L1 L2 w2 HR1'.out HR2.out (by omega) (by omega) (decide_eq_true HEQ.out)).mono ?_; rintro e w3 ⟨rfl, hb3⟩; have HB3 := Lib.hid (HB2.out.trans (hb3.mono HB2.out.size)); clear hb3)
    | (go_at_call 32; refine (dsUsed B C nb a pw t l u room F w3 (HD.out.below HB3.out)).mono ?_; rintro e w4 ⟨rfl, hb4⟩; have HB4 := Lib.hid (HB3.out.trans (hb4.mono HB3.out.size)); clear hb4)
    | (go_at_call 12; refine (usedM D N mp mb t room F w4 ⟨V, HM.out.below HB4.out⟩ HD.out.tot (by omega)).mono ?_; rintro e w5 ⟨rfl, hb5⟩; have HB5 := Lib.hid (HB4.out.trans (hb5.mono HB4.out.size)); clear hb5)))
  have hsz5 := HB5.out.size
  have n5 : w5.cell? ⟨0, 0, none⟩ = some (.slice (some na) 4 nc) := cellk (HB5.out.mono (by omega)) (show 0 < w.heap.size by omega) hn1
  go_wp2_with (fail)
  clear HA1 HR1 HR1' HR2 HEQ hll1 hll2 HB1 HB2 HB3 HB4 hsz5 n5
  go_loopw [30] (fun i wr => ∃ k : Nat, k ≤ 4 ∧ i = .int .i64 k ∧ Hid (Below w.heap.size w wr)) (fun i _ => 4 - (intOf i).toNat)
  case atStart => exact ⟨0, by omega, rfl, HB5⟩
  case round =>
    obtain ⟨k, hk, rfl, HB⟩ := hrel
    have hszr := HB.out.size
    by_cases hkn : k < 4
    · have g0 : decide ((k : Int) < 4) = true := decide_eq_true (by omega)
      have hwk : IntKind.i64.wrap ((k : Int) + 1) = ((k + 1 : Nat) : Int) := by rw [IntWalk.i64_in _ (by omega)]; push_cast; rfl
      have k0 : (0 : Int) ≤ (k : Int) := by omega
      have k1 : (k : Int) < 4 := by omega
      obtain ⟨kk, hkk⟩ : ∃ kk, kk = nameAt k := ⟨_, rfl⟩
      have hkl : kk.length ≤ maxLen := by rw [hkk]; exact nameAt_len _
      have nk : wr.cell? (na.add k) = some (txt kk) := by
        have := HN3.out k
        rw [Nat.mod_eq_of_lt hkn, ← hkk] at this
        exact cellk (HB.out.mono (by omega)) (by rw [block_of_add]; omega) this
      have cr : wr.cell? ⟨mp, 0, none⟩ = some (.map (some mb)) := cellk HB.out hmp c0
      have hmr := HM.out.below HB.out
      obtain ⟨Af, cf, hfv, hrd⟩ := hmr.look kk
      obtain ⟨nd, hnd⟩ : ∃ nd, nd = (dataF F kk).length := ⟨_, rfl⟩
      obtain ⟨kp, hkp⟩ : ∃ kp, kp = keptF F kk := ⟨_, rfl⟩
      obtain ⟨ok, hok⟩ : ∃ ok, ok = (F kk).isSome := ⟨_, rfl⟩
      obtain ⟨rf, hrf⟩ : ∃ rf, rf = (F kk).map fun x => fileV (V kk) x.2 := ⟨_, rfl⟩
      have hok' : ok = rf.isSome := by rw [hok, hrf, Option.isSome_map]
      have hnb : nd ≤ 1000000 := by
        have := HD.out.tot.one kk
        rw [lenF_data] at this
        omega
      rw [← hrf, ← hnd, ← hkp] at hfv
      rw [← hnd] at hrd
      have HMR := Lib.hid hmr
      have HFV := Lib.hid hfv
      have HRD := Lib.hid hrd
      have HR := Lib.hid hrf.symm
      have HOK := Lib.hid hok'
      have HO2 := Lib.hid hok
      have HND := Lib.hid hnd
      have HKP := Lib.hid hkp
      clear hmr hfv hrd hrf hok hok' hnd hkp hkk
      go_wp2_with (at_lookup; (refine wpList_look rfl _ _ 27 rfl 43 Tryd.underlying27 (zeroF' _) mb N _ rfl HMR.out.map kk rfl hkl rf HR.out ?_); rw [HFV.out, ← HOK.out])
      have hbx : Below wr.heap.size wr (wr.alloc (.cells #[.slice Af nd cf, .int .i64 kp] 43 (0, 0))) := (Below.refl wr.heap.size wr).alloc (Nat.le_refl _) _
      have hqx : (wr.alloc (.cells #[.slice Af nd cf, .int .i64 kp] 43 (0, 0))).heap[wr.heap.size]? = some (.cells #[.slice Af nd cf, .int .i64 kp] 43 (0, 0)) := heap_alloc_new _ _
      have hzx : (wr.alloc (.cells #[.slice Af nd cf, .int .i64 kp] 43 (0, 0))).heap.size = wr.heap.size + 1 := World.size_alloc _ _
      obtain ⟨qx, hqxe⟩ : ∃ qx, qx = wr.heap.size := ⟨_, rfl⟩
      rw [← hqxe] at hqx ⊢
      have HBX := Lib.hid (HB.out.trans (hbx.mono hszr))
      have HRX := Lib.hid (HRD.out.below hbx)
      generalize (wr.alloc (.cells #[.slice Af nd cf, .int .i64 kp] 43 (0, 0))) = w6 at *
      have x0 : w6.cell? ⟨qx, 0, none⟩ = some (.slice Af nd cf) := by rw [cell_of_blk hqx]; rfl
      have x1 : w6.cell? ⟨qx, 1, none⟩ = some (.int .i64 kp) := by rw [cell_of_blk hqx]; rfl
      have hqx6 : qx < w6.heap.size := by omega
      have hwx : wr.heap.size ≤ w6.heap.size := by omega
      clear hqxe hzx hbx hqx
      refine (dsReadAny B C nb a pw t l u room F kk w6 (HD.out.below HBX.out) hkl).mono ?_
      rintro e w7 ⟨Ab, cb, rfl, hrb, hb7⟩
      rw [← HND.out, ← HO2.out]
      rw [← HND.out] at hrb
      have y0 := cellk hb7 hqx6 x0
      have y1 := cellk hb7 hqx6 x1
      have hqx7 : qx < w7.heap.size := Nat.lt_of_lt_of_le hqx6 hb7.size
      have HB7 := Lib.hid (HBX.out.trans (hb7.mono HBX.out.size))
      have HRB := Lib.hid hrb
      have HRX7 := Lib.hid (HRX.out.below (hb7.mono hwx))
      clear hb7 hrb x0 x1
      have gk : (((kp : Nat) : Int) != (kp : Int)) = false := by simp
      have gb : (ok != ok) = false := by simp
      go_wp2_with (fail)
      go_region_held3 (fun w' => w'.cell? ⟨qx, 0, none⟩ = some (.slice Af nd cf) ∧ w'.cell? ⟨qx, 1, none⟩ = some (.int .i64 kp)) (first | exact ⟨cellk HB8.out hqx7 y0, cellk HB8.out hqx7 y1⟩ | exact ⟨y0, y1⟩ | go_keep) ((first
        | (go_at_call 33; refine (equalB true Ab Af nd cb nd cf _ _ (dataF F kk) (dataF F kk) w7.drew (show Reads w7.drew _ 1 Ab nd _ from HRB.out) (show Reads w7.drew _ 1 Af nd _ from HRX7.out) (by omega) (by omega) (decide_eq_true rfl)).mono ?_; rintro e w8 ⟨rfl, hb8⟩; have HB8 := Lib.hid (((Below.refl w7.heap.size w7).drew).trans hb8); clear hb8)
        | (go_at_call 20; refine (dsKept B C nb a pw t l u room F kk w8 (HD.out.below (HB7.out.trans (HB8.out.mono HB7.out.size))) hkl).mono ?_; rintro e w9 ⟨he, rfl⟩; rw [← HKP.out] at he; subst he)))
      go_wp2_with (fail)
      exact ⟨⟨k + 1, by omega, by push_cast; rfl, Lib.hid (HB7.out.trans (HB8.out.mono HB7.out.size))⟩, by simp [intOf]; omega⟩
    · obtain rfl : k = 4 := by omega
      have g0 : decide ((4 : Int) < 4) = false := rfl
      go_wp2_with (fail)
      go_ret
      exact ⟨rfl, HB.out⟩
end Go.Proofs.YtfccoiofpmhbdaaDoor
