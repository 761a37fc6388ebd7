/- A disk, its power and the bytes in it: what each call turns, in one word. Condition: not too many bytes, not too many steps. -/
import Derived.Test.YtfccoiofpmhbdaaDoorChoice
namespace Go.Proofs.YtfccoiofpmhbdaaDoor
open Go Go.Proofs Go.RowKit

def dataF (F : Files) (k : FName) : List UInt8 := match F k with
  | some x => x.1
  | none => []
theorem keptF_of {F : Files} {k : FName} {bs : List UInt8} {kept : Nat} (h : F k = some (bs, kept)) : keptF F k = kept := by simp [keptF, h]
theorem dataF_of {F : Files} {k : FName} {bs : List UInt8} {kept : Nat} (h : F k = some (bs, kept)) : dataF F k = bs := by simp [dataF, h]
theorem lenF_of {F : Files} {k : FName} {bs : List UInt8} {kept : Nat} (h : F k = some (bs, kept)) : lenF F k = bs.length := by simp [lenF, h]
theorem lenF_data (F : Files) (k : FName) : lenF F k = (dataF F k).length := by unfold lenF dataF; split <;> simp [*]
/-- A disk with its power, both behind B. -/
structure DS (B : Nat) (w : World) (C : Nat → Prop) (nb a pw : Nat) (l u room : Int) (F : Files) (t : Nat) : Prop where
  disk : ∃ N, N ≤ nb ∧ DiskAt w C N a pw room F
  pow : PwAt w pw l u
  npw : ¬ C pw
  tot : Total F t
  kept : KeptOk F
  base : ∀ b, C b → B ≤ b
  pbase : B ≤ pw
  u0 : 0 ≤ u
  u1 : u ≤ nb
  n1 : nb ≤ 1000000
  r0 : 0 ≤ room
  r1 : room ≤ 1000000
  t1 : (t : Int) ≤ room
section
variable {B : Nat} {w w' : World} {C : Nat → Prop} {nb a pw : Nat} {l u room : Int} {F : Files} {t : Nat}
theorem DS.mod {G : Nat → Prop} (h : DS B w C nb a pw l u room F t) (hm : Mod G w w') (hn : ∀ b, C b → ¬ G b) (hp : ¬ G pw) : DS B w' C nb a pw l u room F t := by
  obtain ⟨N, hN, hd⟩ := h.disk
  exact { h with disk := ⟨N, hN, hd.mod hm hn⟩, pow := h.pow.mod hm hp }
theorem DS.below (h : DS B w C nb a pw l u room F t) (hb : Below w.heap.size w w') : DS B w' C nb a pw l u room F t := h.mod (G := fun _ => False) (Mod.of_below hb) (fun _ _ h => h) (fun h => h)
theorem DS.lt (h : DS B w C nb a pw l u room F t) : ∀ b, C b ∨ b = pw → b < w.heap.size := by
  obtain ⟨N, hN, hd⟩ := h.disk
  rintro b (hb | rfl)
  · exact hd.lt hb
  · exact h.pow.lt
theorem DS.size (h : DS B w C nb a pw l u room F t) : B ≤ w.heap.size := by
  have := h.lt pw (.inr rfl)
  have := h.pbase
  omega
theorem DS.more (h : DS B w C nb a pw l u room F t) {nb' : Nat} (hn : nb ≤ nb') (hn' : nb' ≤ 1000000) : DS B w C nb' a pw l u room F t := by
  obtain ⟨N, hN, hd⟩ := h.disk
  exact { h with disk := ⟨N, by omega, hd⟩, u1 := by have := h.u1; omega, n1 := hn' }
/-- Where the disk may have been changed, and its power. -/
def TouchD (C : Nat → Prop) (pw : Nat) : Nat → Prop := fun b => C b ∨ b = pw
theorem DS.keeps (h : DS B w C nb a pw l u room F t) (hm : Mod (TouchD C pw) w w') : Below B w w' := hm.below h.size fun k hk h' => by
  rcases h' with h' | rfl
  · have := h.base k h'; omega
  · have := h.pbase; omega
end
/-- A call is behind, with v for an answer, and the disk is as told. -/
def RetDS (w : World) (B : Nat) (C : Nat → Prop) (nb a pw : Nat) (l u room : Int) (F : Files) (t : Nat) (v : Value) (e : Ending) (w' : World) : Prop :=
  e = .returned v ∧ ∃ C', DS B w' C' nb a pw l u room F t ∧ (∀ b, C' b → C b ∨ w.heap.size ≤ b) ∧ Mod (TouchD C pw) w w' ∧ Below B w w'
theorem dsNew (room : Int) (w : World) (h0 : 0 ≤ room) (h1 : room ≤ 1000000) :
    Calls Tryd.prog 6 #[.int .i64 room] w fun e w' => ∃ C a pw, e = .returned (.pointer (some ⟨a, 0, none⟩)) ∧ DS w.heap.size w' C 0 a pw (-1) 0 room (fun _ => none) 0 ∧ Below w.heap.size w w' := by
  refine (new4 room w).mono ?_
  rintro e w' ⟨C, a, pw, rfl, hd, hp, hn, hpb, hcb, hb⟩
  exact ⟨C, a, pw, rfl, ⟨⟨0, Nat.le_refl _, hd⟩, hp, hn, Total.none_, (fun k bs kept h => by cases h), hcb, hpb, Int.le_refl _, Int.le_refl _, by omega, h0, h1, h0⟩, hb⟩
/-- A step is behind. -/
theorem ds_step {B : Nat} {w w' : World} {C : Nat → Prop} {nb N' a pw t t' : Nat} {l u room : Int} {F F' : Files} {e : Ending} (h : DS B w C nb a pw l u room F t) (hs : RetStep w C N' a pw l u room F' e w') (hN : N' ≤ nb + 1) (hnb : nb < 1000000) (ht : Total F' t') (hk : KeptOk F') (htr : (t' : Int) ≤ room) :
    RetDS w B C (nb + 1) a pw l (u + 1) room F' t' (.int .i64 0) e w' := by
  obtain ⟨C', rfl, hd, hc, hp, hn, hm⟩ := hs
  have hz := h.size
  have h0 := h.u0
  have h1 := h.u1
  exact ⟨rfl, C', ⟨⟨N', hN, hd⟩, hp, hn, ht, hk, (fun b hb => by rcases hc b hb with h' | h'; exact h.base b h'; omega), h.pbase, by omega, by omega, by omega, h.r0, h.r1, htr⟩, hc, hm, h.keeps hm⟩
theorem keptOk_put {F : Files} (h : KeptOk F) (k : FName) (bs : List UInt8) (kept : Nat) (hk : kept ≤ bs.length) : KeptOk (putF F k (bs, kept)) := fun y bs' kept' hy => by
  unfold putF at hy
  split at hy
  · injection hy with hy
    injection hy with h1 h2
    subst h1 h2
    exact hk
  · exact h y bs' kept' hy
theorem keptOk_del {F : Files} (h : KeptOk F) (k : FName) : KeptOk (delF_ F k) := fun y bs' kept' hy => by
  unfold delF_ at hy
  split at hy
  · cases hy
  · exact h y bs' kept' hy
theorem keptF_le {F : Files} (h : KeptOk F) (k : FName) : keptF F k ≤ (dataF F k).length := by
  unfold keptF dataF
  cases hF : F k with
  | none => exact Nat.le_refl _
  | some x => exact h k x.1 x.2 hF
theorem total_append {F : Files} {t : Nat} (h : Total F t) (k : FName) (news : List UInt8) (c : Nat) : Total (putF F k (dataF F k ++ news, c)) (t + news.length) := by
  have h1 := h.put k (dataF F k ++ news, c)
  have h2 := h.one k
  have h3 := lenF_data F k
  simp only [List.length_append] at h1
  rwa [show t - lenF F k + ((dataF F k).length + news.length) = t + news.length by omega] at h1
/-- Appended: there is room. -/
theorem dsAppend (B B' : Nat) (C : Nat → Prop) (nb a pw t : Nat) (l u room : Int) (F : Files) (k : Txt) (news : List UInt8) (A : Option Addr) (n c : Nat) (w : World) (h : DS B w C nb a pw l u room F t) (hnb : nb < 1000000) (hl : l < 0 ∨ u < l) (hk : k.length ≤ maxLen)
    (hroom : (t : Int) + n ≤ room) (hrd : Reads w B' 1 A n (bv news)) (hB : B' ≤ w.heap.size) (hsep : ∀ g, A.map (·.block) = some g → 0 < n → ¬ C g ∧ g ≠ pw) :
    Calls Tryd.prog 16 #[.pointer (some ⟨a, 0, none⟩), txt k, .slice A n c] w (RetDS w B C (nb + 1) a pw l (u + 1) room (putF F k (dataF F k ++ news, keptF F k)) (t + n) (.int .i64 0)) := by
  obtain ⟨N, hN, hd⟩ := h.disk
  have h0 := h.u0
  have h1 := h.u1
  have h2 := h.n1
  have h3 := h.r0
  have h4 := h.r1
  have hn : news.length = n := by have := hrd.1; rw [bv_length] at this; omega
  have ht := total_append h.tot k news (keptF F k)
  rw [hn] at ht
  have hko : KeptOk (putF F k (dataF F k ++ news, keptF F k)) := keptOk_put h.kept k _ _ (by have := keptF_le h.kept k; rw [List.length_append]; omega)
  cases hF : F k with
  | none =>
    have e1 : dataF F k = [] := by simp [dataF, hF]
    have e2 : keptF F k = 0 := by simp [keptF, hF]
    rw [e1, e2, List.nil_append] at ht hko ⊢
    refine (appendNew C N a pw t B' l u room F k news A n c w hd h.tot (by omega) h3 (by omega) (by omega) (by omega) h.pow h.npw h0 (by omega) hl hk hF (by omega) hrd hB hsep).mono fun e w' hs => ?_
    exact ds_step h hs (by omega) hnb ht hko (by omega)
  | some x =>
    obtain ⟨bs, kept⟩ := x
    have e1 : dataF F k = bs := by simp [dataF, hF]
    have e2 : keptF F k = kept := by simp [keptF, hF]
    rw [e1, e2] at ht hko ⊢
    refine (appendOld C N a pw t B' l u room F k bs news kept A n c w hd h.tot (by omega) h3 (by omega) (by omega) (by omega) h.pow h.npw h0 (by omega) hl hk hF hrd hB hsep).mono fun e w' hs => ?_
    exact ds_step h hs (by omega) hnb ht hko (by omega)
theorem dsAppendFail (B : Nat) (C : Nat → Prop) (nb a pw t : Nat) (l u room : Int) (F : Files) (k : Txt) (A : Option Addr) (n c : Nat) (w : World) (h : DS B w C nb a pw l u room F t) (hn : n ≤ 1000000000) (hroom : room < (t : Int) + n) :
    Calls Tryd.prog 16 #[.pointer (some ⟨a, 0, none⟩), txt k, .slice A n c] w fun e w' => e = .returned (.int .i64 9) ∧ Below w.heap.size w w' := by
  obtain ⟨N, hN, hd⟩ := h.disk
  have h3 := h.r0
  have h4 := h.r1
  have h5 := h.t1
  exact appendFail C N a pw t room F k A n c w hd h.tot (by omega) (by omega) (by omega) hn (by omega)
theorem total_sync {F : Files} {t : Nat} (h : Total F t) {k : FName} {bs : List UInt8} {kept : Nat} (hF : F k = some (bs, kept)) (c : Nat) : Total (putF F k (bs, c)) t := by
  have h1 := h.put k (bs, c)
  have h2 := h.one k
  have h3 : lenF F k = bs.length := by simp [lenF, hF]
  rwa [show t - lenF F k + (bs, c).1.length = t by simp only; omega] at h1
theorem dsSync (B : Nat) (C : Nat → Prop) (nb a pw t : Nat) (l u room : Int) (F : Files) (k : Txt) (bs : List UInt8) (kept : Nat) (w : World) (h : DS B w C nb a pw l u room F t) (hnb : nb < 1000000) (hl : l < 0 ∨ u < l) (hk : k.length ≤ maxLen) (hF : F k = some (bs, kept)) :
    Calls Tryd.prog 21 #[.pointer (some ⟨a, 0, none⟩), txt k] w (RetDS w B C (nb + 1) a pw l (u + 1) room (putF F k (bs, bs.length)) t (.int .i64 0)) := by
  obtain ⟨N, hN, hd⟩ := h.disk
  have h0 := h.u0
  have h1 := h.u1
  refine (syncD C N a pw l u room F k bs kept w hd h.pow h.npw h0 (by omega) hl hk hF).mono fun e w' hs => ?_
  exact ds_step h hs (by omega) hnb (total_sync h.tot hF _) (keptOk_put h.kept k _ _ (Nat.le_refl _)) h.t1
theorem dsRemove (B : Nat) (C : Nat → Prop) (nb a pw t : Nat) (l u room : Int) (F : Files) (k : Txt) (x : List UInt8 × Nat) (w : World) (h : DS B w C nb a pw l u room F t) (hnb : nb < 1000000) (hl : l < 0 ∨ u < l) (hk : k.length ≤ maxLen) (hF : F k = some x) :
    Calls Tryd.prog 23 #[.pointer (some ⟨a, 0, none⟩), txt k] w (RetDS w B C (nb + 1) a pw l (u + 1) room (delF_ F k) (t - lenF F k) (.int .i64 0)) := by
  obtain ⟨N, hN, hd⟩ := h.disk
  have h0 := h.u0
  have h1 := h.u1
  have h5 := h.t1
  refine (removeD C N a pw l u room F k x w hd h.pow h.npw h0 (by omega) hl hk hF).mono fun e w' hs => ?_
  exact ds_step h hs (by omega) hnb (h.tot.del k) (keptOk_del h.kept k) (by omega)
theorem total_move {F : Files} {t : Nat} (h : Total F t) {k : FName} {bs : List UInt8} {kept : Nat} (hF : F k = some (bs, kept)) (k' : FName) : ∃ t', t' ≤ t ∧ Total (putF (delF_ F k) k' (bs, kept)) t' := by
  have h1 := (h.del k).put k' (bs, kept)
  have h2 := h.one k
  have h3 : lenF F k = bs.length := by simp [lenF, hF]
  exact ⟨_, by simp only; omega, h1⟩
theorem dsMove (B : Nat) (C : Nat → Prop) (nb a pw t : Nat) (l u room : Int) (F : Files) (k k' : Txt) (bs : List UInt8) (kept : Nat) (w : World) (h : DS B w C nb a pw l u room F t) (hnb : nb < 1000000) (hl : l < 0 ∨ u < l) (hk : k.length ≤ maxLen) (hk' : k'.length ≤ maxLen) (hF : F k = some (bs, kept)) :
    Calls Tryd.prog 22 #[.pointer (some ⟨a, 0, none⟩), txt k, txt k'] w (RetDS w B C (nb + 1) a pw l (u + 1) room (putF (delF_ F k) k' (bs, kept)) (t - lenF F k - lenF (delF_ F k) k' + bs.length) (.int .i64 0)) := by
  obtain ⟨N, hN, hd⟩ := h.disk
  have h0 := h.u0
  have h1 := h.u1
  have h2 := h.n1
  have h5 := h.t1
  have h6 := h.tot.one k
  have h7 : lenF F k = bs.length := by simp [lenF, hF]
  refine (moveD C N a pw l u room F k k' bs kept w hd h.pow h.npw h0 (by omega) hl hk hk' (by omega) hF).mono fun e w' hs => ?_
  exact ds_step h hs (by omega) hnb ((h.tot.del k).put k' (bs, kept)) (keptOk_put (keptOk_del h.kept k) k' _ _ (h.kept k bs kept hF)) (by omega)
theorem dsCut (B : Nat) (C : Nat → Prop) (nb a pw t m : Nat) (l u room : Int) (F : Files) (k : Txt) (bs : List UInt8) (kept : Nat) (w : World) (h : DS B w C nb a pw l u room F t) (hnb : nb < 1000000) (hl : l < 0 ∨ u < l) (hk : k.length ≤ maxLen) (hF : F k = some (bs, kept)) (hm : m ≤ bs.length) :
    Calls Tryd.prog 24 #[.pointer (some ⟨a, 0, none⟩), txt k, .int .i64 m] w (RetDS w B C (nb + 1) a pw l (u + 1) room (putF F k (bs.take m, m)) (t - bs.length + m) (.int .i64 0)) := by
  obtain ⟨N, hN, hd⟩ := h.disk
  have h0 := h.u0
  have h1 := h.u1
  have h4 := h.r1
  have h5 := h.t1
  have h6 := h.tot.one k
  have h7 : lenF F k = bs.length := by simp [lenF, hF]
  have hl2 : (bs.take m).length = m := by rw [List.length_take]; omega
  have ht := h.tot.put k (bs.take m, m)
  simp only [hl2, h7] at ht
  refine (cutD C N a pw m l u room F k bs kept w hd h.pow h.npw h0 (by omega) hl hk hF hm (by omega)).mono fun e w' hs => ?_
  exact ds_step h hs (by omega) hnb ht (keptOk_put h.kept k _ _ (by rw [hl2]; exact Nat.le_refl _)) (by omega)
theorem crash_len {F : Files} {ch} (k : FName) : lenF (crashF F ch) k ≤ lenF F k := by
  unfold lenF crashF
  cases F k with
  | none => exact Nat.le_refl _
  | some x => simp [crash1, List.length_take]; omega
theorem total_crash {F : Files} {t : Nat} (h : Total F t) (ch) : ∃ t', t' ≤ t ∧ Total (crashF F ch) t' := by
  obtain ⟨L, h1, h2, rfl⟩ := h
  refine ⟨_, ?_, L, h1, fun k => by rw [h2]; unfold crashF; simp, rfl⟩
  clear h1 h2
  induction L with
  | nil => exact Nat.le_refl _
  | cons k L ih => rw [sumF_cons, sumF_cons]; have := crash_len (F := F) (ch := ch) k; omega
theorem keptOk_crash {F : Files} (h : KeptOk F) (ch) : KeptOk (crashF F ch) := fun k bs kept hk => by
  unfold crashF at hk
  cases hF : F k with
  | none => rw [hF] at hk; cases hk
  | some x =>
    rw [hF] at hk
    have h1 := h k x.1 x.2 hF
    simp only [Option.map_some, crash1, Option.some.injEq, Prod.mk.injEq] at hk
    obtain ⟨rfl, rfl⟩ := hk
    rw [List.length_take]
    have := Nat.mod_lt (ch k (x.1.length - x.2)) (show 0 < x.1.length - x.2 + 1 by omega)
    omega
/-- Crashed. -/
theorem dsCrash (g : Nat) (lb : Array Value) (B : Nat) (C J : Nat → Prop) (nb a pw t : Nat) (l u room : Int) (F : Files) (ch : Txt → Nat → Nat) (I : (Nat → Prop) → List Txt → World → Prop) (w : World) (h : DS B w C nb a pw l u room F t) (hA : Asks g lb C J F ch I w) (hJ : ¬ J pw) (hch : ∀ k n, n ≤ 1000000000 → ch k n ≤ 1000000000000000000) :
    Calls Tryd.prog 17 #[.pointer (some ⟨a, 0, none⟩), .func (.func g) #[] lb] w fun e w' => e = .returned (.tuple #[]) ∧ (∃ t', t' ≤ t ∧ DS B w' C nb a pw l u room (crashF F ch) t') ∧ (∃ R L, NamesAre (fun k => (F k).isSome) L ∧ I R L w') ∧ Mod (fun b => C b ∨ J b) w w' := by
  obtain ⟨N, hN, hd⟩ := h.disk
  have h2 := h.n1
  have h4 := h.r1
  have h5 := h.t1
  refine (crashD g lb C J N a pw t room F ch I w hd (by omega) hA h.kept h.tot (by omega) hch).mono ?_
  rintro e w' ⟨rfl, R, L, hL, hI, hd', hm⟩
  obtain ⟨t', ht', ht2⟩ := total_crash h.tot ch
  exact ⟨rfl, ⟨t', ht', { h with disk := ⟨N, hN, hd'⟩, pow := h.pow.mod hm (fun hh => hh.elim h.npw hJ), tot := ht2, kept := keptOk_crash h.kept ch, t1 := by omega }⟩, ⟨R, L, hL, hI⟩, hm⟩
theorem dsRead (B : Nat) (C : Nat → Prop) (nb a pw t : Nat) (l u room : Int) (F : Files) (k : Txt) (bs : List UInt8) (kept : Nat) (w : World) (h : DS B w C nb a pw l u room F t) (hk : k.length ≤ maxLen) (hF : F k = some (bs, kept)) :
    Calls Tryd.prog 19 #[.pointer (some ⟨a, 0, none⟩), txt k] w (RetRead w bs) := by
  obtain ⟨N, hN, hd⟩ := h.disk
  have h4 := h.r1
  have h5 := h.t1
  have h6 := h.tot.one k
  have h7 : lenF F k = bs.length := by simp [lenF, hF]
  exact readD C N a pw room F k bs kept w hd hk hF (by omega)
theorem dsReadNone (B : Nat) (C : Nat → Prop) (nb a pw t : Nat) (l u room : Int) (F : Files) (k : Txt) (w : World) (h : DS B w C nb a pw l u room F t) (hk : k.length ≤ maxLen) (hF : F k = none) :
    Calls Tryd.prog 19 #[.pointer (some ⟨a, 0, none⟩), txt k] w fun e w' => e = .returned (.tuple #[.slice none 0 0, .bool false]) ∧ w' = w := by
  obtain ⟨N, hN, hd⟩ := h.disk
  exact readD_none C N a pw room F k w hd hk hF
theorem dsKept (B : Nat) (C : Nat → Prop) (nb a pw t : Nat) (l u room : Int) (F : Files) (k : Txt) (w : World) (h : DS B w C nb a pw l u room F t) (hk : k.length ≤ maxLen) :
    Calls Tryd.prog 20 #[.pointer (some ⟨a, 0, none⟩), txt k] w fun e w' => e = .returned (.int .i64 (keptF F k)) ∧ w' = w := by
  obtain ⟨N, hN, hd⟩ := h.disk
  exact keptD C N a pw room F k w hd hk
theorem dsUsed (B : Nat) (C : Nat → Prop) (nb a pw t : Nat) (l u room : Int) (F : Files) (w : World) (h : DS B w C nb a pw l u room F t) :
    Calls Tryd.prog 32 #[.pointer (some ⟨a, 0, none⟩)] w fun e w' => e = .returned (.int .i64 t) ∧ Below w.heap.size w w' := by
  obtain ⟨N, hN, hd⟩ := h.disk
  have h4 := h.r1
  have h5 := h.t1
  exact usedD C N a pw t room F w hd h.tot (by omega)
theorem dsNames (B : Nat) (C : Nat → Prop) (nb a pw t : Nat) (l u room : Int) (F : Files) (w : World) (h : DS B w C nb a pw l u room F t) :
    Calls Tryd.prog 31 #[.pointer (some ⟨a, 0, none⟩)] w (RetNames w (fun k => (F k).isSome)) := by
  obtain ⟨N, hN, hd⟩ := h.disk
  have h2 := h.n1
  exact namesD C N a pw room F w hd (by omega)
end Go.Proofs.YtfccoiofpmhbdaaDoor
