/- selionlaw05.CodeWrites answers true, whatever the numbers, the texts. Condition: the package's variable 'none' holds what its text lays. -/
import Derived.Test.YtgonklbjbgekoaaDoorLawCut
import Derived.Deep.RegionHeld3
import Derived.Deep.DrawnRows
namespace Go.Proofs.YtgonklbjbgekoaaDoor
open Go Go.Proofs Go.RowKit

def oneN : Option Nat → List UInt8
  | some u => numB u
  | none => []
def oneT : Option Txt → List UInt8
  | some s => textB s
  | none => []
/-- What is written in the k-th round. -/
def itemF (us : List Nat) (ss : List Txt) (k : Nat) : List UInt8 := oneN us[k]? ++ oneT ss[k]?
def encF (us : List Nat) (ss : List Txt) : Nat → List UInt8
  | 0 => []
  | k + 1 => encF us ss k ++ itemF us ss k
def encR (us : List Nat) (ss : List Txt) : Nat → Nat → List UInt8
  | _, 0 => []
  | k, c + 1 => itemF us ss k ++ encR us ss (k + 1) c
theorem encF_split (us : List Nat) (ss : List Txt) : ∀ (c k : Nat), encF us ss (k + c) = encF us ss k ++ encR us ss k c := by
  intro c
  induction c with
  | zero => intro k; simp [encR]
  | succ c ih =>
    intro k
    rw [show k + (c + 1) = (k + 1) + c by omega, ih (k + 1)]
    simp only [encF, encR, List.append_assoc]
theorem step_of_wp {P : Program} {ops : Array Oper} {o : Oper} {a : Act} {w : World} {K : Act → World → Prop} {Q : Exit → Act → World → Prop} {E : Prop} (hg : o.guard = none) (h : Oper.wp P o a w K Q) : if Region.wanted o (yielded ops a.tmps) = true then Oper.wp P o a w K Q else E := by
  have hw : Region.wanted o (yielded ops a.tmps) = true := by simp [Region.wanted, hg]
  rw [if_pos hw]
  exact h
theorem wp_append_rowW_string {P : Program} (w : World) {o : Oper} {a : Act} {K : Act → World → Prop} {Q : Exit → Act → World → Prop} (sl x : Operand) (t u : TypeId)
    (ho : o.op = .call { callee := .builtin .append, args := #[sl, x], argTypes := #[t, u] })
    (e : TypeId) (i : TypeInfo) (ht : P.underlying t = some (.slice e)) (hu : P.underlying u = some .string) (hi : P.info? e = some i) (hz : i.zero = some (.int .u8 0)) (hsize : i.size = 1) (hby : i.bytes = 1)
    (v : Value) (n : Nat) (xs : List Value) (hs : a.eval sl = v) (hown : RowW w e v n xs) (s : ByteArray) (hx : a.eval x = .string s)
    (h63 : n + s.size ≤ maxLen) (hbytes : n + s.size ≤ 140737488355328)
    (h : ∀ v' w', RowW w' e v' (n + s.size) (xs ++ Lib.strCells s) → w.grownBy w' v.ownBlock → (v'.ownBlock = v.ownBlock ∨ v'.ownBlock = some w.heap.size) → K (a.put o.dst v') w') : o.wp P a w K Q := by
  obtain ⟨v', w', hr, h2, h3, h4⟩ := run_append_rowW_string (P := P) w t u o.type e i ht hu hi hz hsize hby v n xs hown s h63 hbytes
  unfold Oper.wp execOp
  simp only [ho, resolve, invoke, builtin, Sem.run_bind, Sem.run_pure, Result.andThen_ok, List.map_toArray, List.map_cons, List.map_nil, hs, hx, hr]
  exact h v' w' h2 h3 h4
/-- The bytes that are wanted, beside a writer's. -/
def WantAt (w : World) (C : Nat → Prop) (base : Nat) (v : Value) (bs : List UInt8) : Prop :=
  RowW w 5 v bs.length (bv bs) ∧ ∀ g, v.ownBlock = some g → base ≤ g ∧ ¬ C g
theorem WantAt.nil (w : World) (C : Nat → Prop) (base : Nat) : WantAt w C base (.slice none 0 0) [] := ⟨RowW.nil _ _, fun g hg => by cases hg⟩
theorem WrAt.tight {w : World} {C : Nat → Prop} {p : Nat} {bs : List UInt8} (h : WrAt w C p bs) : ∃ C0, WrAt w C0 p bs ∧ ∀ b, C0 b → C b ∧ b < w.heap.size := by
  obtain ⟨A, c, h1, h2, h3, h4⟩ := h
  refine ⟨fun b => b = p ∨ (Value.slice A bs.length c).ownBlock = some b, ⟨A, c, h1, h2, .inl rfl, fun g hg => ⟨.inr hg, (h4 g hg).2⟩⟩, fun b hb => ?_⟩
  rcases hb with rfl | hb
  · exact ⟨h3, lt_of_heap h1⟩
  · exact ⟨(h4 b hb).1, h2.lt hb⟩
/-- A writer at P and, apart from it, the bytes that are wanted; all in memory that is new since w. -/
def WS (w : World) (P : Nat) (v : Value) (b1 b2 : List UInt8) (wr : World) : Prop :=
  (∃ C, WrAt wr C P b1 ∧ WantAt wr C w.heap.size v b2 ∧ ∀ b, C b → w.heap.size ≤ b ∧ b < wr.heap.size) ∧ Below w.heap.size w wr
theorem WS.below {w wr w2 : World} {P : Nat} {v : Value} {b1 b2 : List UInt8} (h : WS w P v b1 b2 wr) (hb : Below wr.heap.size wr w2) : WS w P v b1 b2 w2 := by
  obtain ⟨⟨C, h1, h2, h3⟩, h4⟩ := h
  have hm : Mod (fun _ => False) wr w2 := Mod.of_below hb
  exact ⟨⟨C, h1.below hb, ⟨h2.1.mod hm (fun _ _ h => h), h2.2⟩, fun b hb' => ⟨(h3 b hb').1, by have := (h3 b hb').2; have := hb.size; omega⟩⟩, h4.trans (hb.mono h4.size)⟩
theorem WS.form {w wr : World} {P : Nat} {v : Value} {b1 b2 : List UInt8} (h : WS w P v b1 b2 wr) : ∃ A c, v = .slice A b2.length c ∧ b2.length ≤ c := by
  obtain ⟨⟨C, h1, h2, h3⟩, h4⟩ := h
  exact h2.1.form
theorem WS.wrote {w wr w2 : World} {P : Nat} {v : Value} {b1 b1' b2 : List UInt8} {C : Nat → Prop} {e : Ending} (hC : WrAt wr C P b1 ∧ WantAt wr C w.heap.size v b2 ∧ ∀ b, C b → w.heap.size ≤ b ∧ b < wr.heap.size) (hb : Below w.heap.size w wr) (hr : RetWr wr C P b1' e w2) : e = .returned (.tuple #[]) ∧ WS w P v b1' b2 w2 := by
  obtain ⟨h1, ⟨h2, h2'⟩, h3⟩ := hC
  obtain ⟨rfl, C', k1, k2, k3⟩ := hr
  obtain ⟨C0, k4, k5⟩ := k1.tight
  refine ⟨rfl, ⟨C0, k4, ⟨h2.mod k3 (fun g hg => (h2' g hg).2), fun g hg => ⟨(h2' g hg).1, fun hc => ?_⟩⟩, fun b hb' => ?_⟩, hb.trans (k3.below hb.size (fun k hk hc => by have := (h3 k hc).1; omega))⟩
  · have hlt := h2.lt hg
    rcases k2 g (k5 g hc).1 with h | h
    · exact (h2' g hg).2 h
    · omega
  · obtain ⟨k6, k7⟩ := k5 b hb'
    refine ⟨?_, k7⟩
    rcases k2 b k6 with h | h
    · exact (h3 b h).1
    · have := hb.size; omega
theorem WS.app {w wr w5 : World} {P : Nat} {v v5 : Value} {b1 b2 new : List UInt8} (h : WS w P v b1 b2 wr) (hrow : RowW w5 5 v5 (b2.length + new.length) (bv b2 ++ bv new)) (hgr : wr.grownBy w5 v.ownBlock) (hat : v5.ownBlock = v.ownBlock ∨ v5.ownBlock = some wr.heap.size) : WS w P v5 b1 (b2 ++ new) w5 := by
  obtain ⟨⟨C, h1, ⟨h2, h2'⟩, h3⟩, h4⟩ := h
  have hm : Mod (fun b => v.ownBlock = some b) wr w5 := (Mod.refl _ _).grown hgr (fun g hg _ => hg)
  refine ⟨⟨C, h1.mod hm (fun b hb hv => (h2' b hv).2 hb), ⟨?_, fun g hg => ?_⟩, fun b hb => ⟨(h3 b hb).1, by have := (h3 b hb).2; have := hm.size; omega⟩⟩, h4.trans (hm.below h4.size (fun k hk hv => by have := (h2' k hv).1; omega))⟩
  · rw [List.length_append, bv_append]
    exact hrow
  · rcases hat with h | h
    · exact h2' g (h ▸ hg)
    · rw [h] at hg
      obtain rfl := Option.some.inj hg
      exact ⟨h4.size, fun hc => by have := (h3 _ hc).2; omega⟩
attribute [local go_sem ↓] Go.wp_at_zero Go.wp_at_succ
set_option maxHeartbeats 8000000 in
set_option maxRecDepth 100000 in
theorem writes5 (A : Option Addr) (nl cl : Nat) (us : List Nat) (A2 : Option Addr) (ns cs : Nat) (ss : List Txt) (w : World) (hn : NoneLaid w) (hr : Reads w w.heap.size 1 A nl (us.map fun u : Nat => .int .u64 (u : Int))) (hu : ∀ u ∈ us, u < 2 ^ 64) (hr2 : Reads w w.heap.size 1 A2 ns (ss.map txt)) :
    Calls Tryd.prog 10 #[.slice A nl cl, .slice A2 ns cs] w fun e w' => e = .returned (.bool true) ∧ Below w.heap.size w w' := by
  have hl : us.length = nl := by have := hr.1; rw [List.length_map] at this; omega
  have hl2 : ss.length = ns := by have := hr2.1; rw [List.length_map] at this; omega
  have HR := Lib.hid hr
  have HR2 := Lib.hid hr2
  have HL := Lib.hid hl
  have HL2 := Lib.hid hl2
  have HU := Lib.hid hu
  clear hr hr2 hl hl2 hu
  by_cases hbig : nl ≤ 30 ∧ ns ≤ 30
  · obtain ⟨hs1, hs2⟩ := hbig
    have g1 : decide ((30 : Int) < (nl : Int)) = false := decide_eq_false (by omega)
    have g2 : decide ((30 : Int) < (ns : Int)) = false := decide_eq_false (by omega)
    obtain ⟨N, hN⟩ : ∃ N, N = max nl ns := ⟨_, rfl⟩
    have hmx : max (nl : Int) (ns : Int) = (N : Int) := by omega
    have hNl : nl ≤ N := by omega
    have hNs : ns ≤ N := by omega
    have hN30 : N ≤ 30 := by omega
    have hNor : ∀ k, k < N → k < nl ∨ k < ns := fun k hk => by omega
    have HNO := Lib.hid hNor
    clear hN hNor
    go_enter Tryd.func10, Tryd.ntmps10
    go_wp2_with (fail)
    refine (awake5_any w hn).mono ?_
    rintro e w1 ⟨rfl, hb1⟩
    clear hn
    have hz1 := hb1.size
    go_wp2_with (fail)
    have HWS0 : Hid (WS w w1.heap.size (.slice none 0 0) [] [] (w1.alloc (.cells #[.slice none 0 0] 35 (0, 0)))) := Lib.hid ⟨⟨fun b => b = w1.heap.size, wrNew w1, WantAt.nil _ _ _, fun b hb => by subst hb; exact ⟨hz1, by simp⟩⟩, hb1.alloc hz1 _⟩
    obtain ⟨P, hP⟩ : ∃ P, P = w1.heap.size := ⟨_, rfl⟩
    rw [← hP] at HWS0 ⊢
    have hPw : w.heap.size ≤ P := by omega
    generalize w1.alloc (.cells #[.slice none 0 0] 35 (0, 0)) = w2 at *
    clear hb1 hz1 hP
    go_loopw [6, 25] (fun v i wr => ∃ k : Nat, k ≤ N ∧ i = .int .i64 k ∧ Hid (WS w P v (encF us ss k) (encF us ss k) wr) ∧ (encF us ss k).length ≤ 330 * k ∧ Hid (∀ j s, j < k → ss[j]? = some s → s.length ≤ 300)) (fun _ i _ => N - (intOf i).toNat)
    case atStart => exact ⟨0, Nat.zero_le _, rfl, HWS0, Nat.le_refl _, Lib.hid (fun j s h => by omega)⟩
    case round =>
      obtain ⟨k, hk, rfl, HW, hln, H3⟩ := hrel
      clear HWS0
      by_cases hkN : k < N
      · have hin0 : (0 : Int) ≤ (k : Int) := by omega
        obtain ⟨bs, hbs⟩ : ∃ bs, bs = encF us ss k := ⟨_, rfl⟩
        obtain ⟨b1, hb1⟩ : ∃ b1, b1 = bs ++ oneN us[k]? := ⟨_, rfl⟩
        obtain ⟨b2, hb2⟩ : ∃ b2, b2 = b1 ++ oneT ss[k]? := ⟨_, rfl⟩
        have henc : encF us ss (k + 1) = b2 := by rw [hb2, hb1, hbs, List.append_assoc]; rfl
        rw [← hbs] at HW hln
        have HE := Lib.hid henc
        have HB1 := Lib.hid hb1
        have HB2 := Lib.hid hb2
        clear hbs henc hb1 hb2
        obtain ⟨⟨C, hC⟩, hbw⟩ := HW.out
        obtain ⟨Av, cv, rfl, hcv⟩ := HW.out.form
        obtain ⟨n, hnl⟩ : ∃ n, n = bs.length := ⟨_, rfl⟩
        have HNL := Lib.hid hnl
        have HC := Lib.hid hC
        have HBW := Lib.hid hbw
        rw [← hnl] at hln hcv ⊢
        clear hnl hC hbw
        obtain ⟨i0, hi, hz0, hz1, hz2⟩ := info_parts info_u8
        by_cases hks : k < ns
        · obtain ⟨s, hsk⟩ : ∃ s, ss[k]? = some s := ⟨ss[k]'(by rw [HL2.out]; exact hks), List.getElem?_eq_getElem _⟩
          obtain ⟨ad2, rfl, had2, hcl2⟩ := HR2.out.2 (by omega)
          have dl2 : w.cell? (ad2.add k) = some (.string ⟨s.toArray⟩) := hcl2 k (txt s) (by rw [List.getElem?_map, hsk]; rfl)
          have e0 : wr.cell? (ad2.add k) = some (.string ⟨s.toArray⟩) := cellk HBW.out (by rw [block_of_add]; exact had2) dl2
          have hsz : (⟨s.toArray⟩ : ByteArray).size = s.length := by simp [ByteArray.size]
          have hin2 : (k : Int) < (ns : Int) := by omega
          have HSK := Lib.hid hsk
          clear hsk hcl2
          by_cases hkl : k < nl
          · obtain ⟨x, hx⟩ : ∃ x, us[k]? = some x := ⟨us[k]'(by rw [HL.out]; exact hkl), List.getElem?_eq_getElem _⟩
            have hx64 := HU.out x (List.mem_of_getElem? hx)
            obtain ⟨ad, rfl, had, hcl⟩ := HR.out.2 (by omega)
            have d0 : wr.cell? (ad.add k) = some (.int .u64 x) := cellk HBW.out (by rw [block_of_add]; exact had) (hcl k _ (by rw [List.getElem?_map, hx]; rfl))
            have hb1e : b1 = bs ++ numB x := by rw [HB1.out, hx]; rfl
            have HB1E := Lib.hid hb1e
            have hin1 : (k : Int) < (nl : Int) := by omega
            have dl : w.cell? (ad.add k) = some (.int .u64 x) := hcl k _ (by rw [List.getElem?_map, hx]; rfl)
            have hx10 := numB_len10 hx64
            clear hx hcl hb1e
            go_wp2_with (fail)
            refine (numW C P x bs wr HC.out.1 hx64 (by rw [← HNL.out]; omega)).mono ?_
            intro e w3 h3
            obtain ⟨rfl, hws3⟩ := WS.wrote HC.out HBW.out h3
            have HW3 := Lib.hid hws3
            have d3 : w3.cell? (ad.add k) = some (.int .u64 x) := cellk hws3.2 (by rw [block_of_add]; exact had) dl
            clear h3 hws3
            go_wp2_with (fail)
            refine (num5 x w3 hx64).mono ?_
            rintro e w4 ⟨A4, c4, rfl, hown4, hb4⟩
            have hrd4 := Reads.of_own hown4
            have hws4 := HW3.out.below hb4
            obtain ⟨m4, hm4⟩ : ∃ m4, m4 = (numB x).length := ⟨_, rfl⟩
            rw [← hm4] at hrd4 hx10 ⊢
            have HM4 := Lib.hid hm4
            have HRD4 := Lib.hid hrd4
            have HW4 := Lib.hid hws4
            have hrow4 := hws4.1.choose_spec.2.1.1
            rw [← HNL.out] at hrow4
            have HRW4 := Lib.hid hrow4
            clear hown4 hb4 hrd4 hws4 hm4 hrow4
            by_cases h300 : s.length ≤ 300
            · have k300 : decide ((300 : Int) < (s.length : Int)) = false := decide_eq_false (by omega)
              go_wp2_with (at_builtin; (refine wpList_append_rowW _ rfl (.tmp 37) (.tmp 42) 22 rfl 5 i0 (.int .u8 0) 1 Tryd.underlying22 hi hz0 hz1 hz2 rfl (.slice Av n cv) n (bv bs) rfl HRW4.out _ A4 m4 c4 (bv (numB x)) rfl HRD4.out (bv_one _) (by unfold maxLen; omega) (by omega) ?_; intro v5 w5 hrow5 hgr5 hat5; obtain ⟨A5, c5, rfl, hc5⟩ := hrow5.form; have HQ5 := Lib.hid (WS.app (new := numB x) HW4.out (by rw [← HNL.out, ← HM4.out]; exact hrow5) (by rw [← HNL.out]; exact hgr5) (by rw [← HNL.out]; exact hat5)); have e5 : w5.cell? (ad2.add k) = some (.string ⟨s.toArray⟩) := cellk HQ5.out.2 (by rw [block_of_add]; exact had2) dl2; have hb1l : n + m4 = b1.length := (by rw [HB1E.out, List.length_append, ← HNL.out, ← HM4.out]); have HQ := HQ5; rw [← HB1E.out, hb1l] at HQ; clear hrow5 hgr5 hat5))
              obtain ⟨⟨C2, hC2⟩, hbw2⟩ := HQ.out
              have HC2 := Lib.hid hC2
              have HBW2 := Lib.hid hbw2
              clear hC2 hbw2
              refine (textW C2 P s b1 w5 HC2.out.1 (by omega) (by rw [← hb1l]; omega)).mono ?_
              intro e w6 h6
              obtain ⟨rfl, hws6⟩ := WS.wrote HC2.out HBW2.out h6
              have HW6 := Lib.hid hws6
              have e6 : w6.cell? (ad2.add k) = some (.string ⟨s.toArray⟩) := cellk hws6.2 (by rw [block_of_add]; exact had2) dl2
              have hs10 := numB_len10 (n := s.length) (by omega)
              have hwr : IntKind.u64.wrap (s.length : Int) = (s.length : Int) := IntWalk.u64_in _ (by omega)
              clear h6 hws6
              go_wp2_with (fail)
              go_region_law (first
                | (refine step_of_wp rfl (wp_append_rowW _ (.tmp 59) (.tmp 66) 22 rfl 5 i0 (.int .u8 0) 1 Tryd.underlying22 hi hz0 hz1 hz2 rfl (.slice A5 b1.length c5) b1.length (bv b1) rfl HW7.out.1.choose_spec.2.1.1 _ A7 (numB s.length).length c7 (bv (numB s.length)) rfl HRD7.out (bv_one _) (by unfold maxLen; omega) (by omega) ?_); intro v8 w8 hrow8 hgr8 hat8; obtain ⟨A8, c8, rfl, hc8⟩ := hrow8.form; have HQ8 := Lib.hid (WS.app (new := numB s.length) HW7.out hrow8 hgr8 hat8); have e8 : w8.cell? (ad2.add k) = some (.string ⟨s.toArray⟩) := cellk HQ8.out.2 (by rw [block_of_add]; exact had2) dl2; clear hrow8 hgr8 hat8)
                | (refine step_of_wp rfl (wp_append_rowW_string _ (.tmp 67) (.tmp 71) 22 9 rfl 5 i0 Tryd.underlying22 Tryd.underlying9 hi hz0 hz1 hz2 (.slice A8 (b1.length + (numB s.length).length) c8) (b1.length + (numB s.length).length) (bv b1 ++ bv (numB s.length)) rfl (by have := HQ8.out.1.choose_spec.2.1.1; rw [List.length_append, bv_append] at this; exact this) ⟨s.toArray⟩ rfl (by rw [hsz]; unfold maxLen; omega) (by rw [hsz]; omega) ?_); intro v9 w9 hrow9 hgr9 hat9; rw [hsz, strCells_txt] at hrow9; obtain ⟨A9, c9, rfl, hc9⟩ := hrow9.form; have HQ9 := Lib.hid (WS.app (new := s) HQ8.out (by rw [List.length_append, bv_append]; exact hrow9) hgr9 hat9); clear hrow9 hgr9 hat9)
                | (go_simp; go_at_call 39; refine (num5 s.length _ (by omega)).mono ?_; rintro e w7 ⟨A7, c7, rfl, hown7, hb7⟩; have HRD7 := Lib.hid (Reads.of_own hown7); have HW7 := Lib.hid (WS.below (WS.below HW6.out (Below.drew (Below.refl _ _))) hb7); have e7 : w7.cell? (ad2.add k) = some (.string ⟨s.toArray⟩) := cellk HW7.out.2 (by rw [block_of_add]; exact had2) dl2; clear hown7 hb7))
              all_goals
                go_wp2_with (fail)
                have hq9 := HQ9.out
                rw [List.append_assoc, show numB s.length ++ s = textB s from rfl] at hq9
                have hbe : b2 = b1 ++ textB s := by rw [HB2.out, HSK.out]; rfl
                refine ⟨⟨k + 1, by omega, by go_num, ?_, ?_, Lib.hid (fun j s' hj hs' => ?_)⟩, by simp [intOf]; omega⟩
                · rw [HE.out, hbe]
                  exact Lib.hid hq9
                · rw [HE.out, hbe, List.length_append]
                  have : (textB s).length = (numB s.length).length + s.length := by unfold textB; rw [List.length_append]
                  omega
                · rcases Nat.lt_or_ge j k with h | h
                  · exact H3.out j s' h hs'
                  · obtain rfl : j = k := by omega
                    rw [HSK.out] at hs'
                    obtain rfl := Option.some.inj hs'
                    exact h300
            · have k300 : decide ((300 : Int) < (s.length : Int)) = true := decide_eq_true (by omega)
              go_wp2_with (at_builtin; (refine wpList_append_rowW _ rfl (.tmp 37) (.tmp 42) 22 rfl 5 i0 (.int .u8 0) 1 Tryd.underlying22 hi hz0 hz1 hz2 rfl (.slice Av n cv) n (bv bs) rfl HRW4.out _ A4 m4 c4 (bv (numB x)) rfl HRD4.out (bv_one _) (by unfold maxLen; omega) (by omega) ?_; intro v5 w5 hrow5 hgr5 hat5; obtain ⟨A5, c5, rfl, hc5⟩ := hrow5.form; have HQ5 := Lib.hid (WS.app (new := numB x) HW4.out (by rw [← HNL.out, ← HM4.out]; exact hrow5) (by rw [← HNL.out]; exact hgr5) (by rw [← HNL.out]; exact hat5)); have e5 : w5.cell? (ad2.add k) = some (.string ⟨s.toArray⟩) := cellk HQ5.out.2 (by rw [block_of_add]; exact had2) dl2; have hb1l : n + m4 = b1.length := (by rw [HB1E.out, List.length_append, ← HNL.out, ← HM4.out]); have HQ := HQ5; rw [← HB1E.out, hb1l] at HQ; clear hrow5 hgr5 hat5))
              go_ret
              exact ⟨rfl, HQ.out.2⟩
          · have hb1e : b1 = bs := by rw [HB1.out, List.getElem?_eq_none (by rw [HL.out]; omega)]; simp [oneN]
            have HQ := HW
            rw [← hb1e] at HQ
            have hb1l : n = b1.length := by rw [hb1e]; exact HNL.out
            clear hb1e
            by_cases h300 : s.length ≤ 300
            · have k300 : decide ((300 : Int) < (s.length : Int)) = false := decide_eq_false (by omega)
              obtain ⟨⟨C2, hC2⟩, hbw2⟩ := HQ.out
              have HC2 := Lib.hid hC2
              have HBW2 := Lib.hid hbw2
              clear hC2 hbw2
              go_wp2_with (fail)
              refine (textW C2 P s b1 wr HC2.out.1 (by omega) (by rw [← hb1l]; omega)).mono ?_
              intro e w6 h6
              obtain ⟨rfl, hws6⟩ := WS.wrote HC2.out HBW2.out h6
              have HW6 := Lib.hid hws6
              have e6 : w6.cell? (ad2.add k) = some (.string ⟨s.toArray⟩) := cellk hws6.2 (by rw [block_of_add]; exact had2) dl2
              have hs10 := numB_len10 (n := s.length) (by omega)
              have hwr : IntKind.u64.wrap (s.length : Int) = (s.length : Int) := IntWalk.u64_in _ (by omega)
              clear h6 hws6
              go_wp2_with (fail)
              go_region_law (first
                | (refine step_of_wp rfl (wp_append_rowW _ (.tmp 59) (.tmp 66) 22 rfl 5 i0 (.int .u8 0) 1 Tryd.underlying22 hi hz0 hz1 hz2 rfl (.slice Av b1.length cv) b1.length (bv b1) rfl HW7.out.1.choose_spec.2.1.1 _ A7 (numB s.length).length c7 (bv (numB s.length)) rfl HRD7.out (bv_one _) (by unfold maxLen; omega) (by omega) ?_); intro v8 w8 hrow8 hgr8 hat8; obtain ⟨A8, c8, rfl, hc8⟩ := hrow8.form; have HQ8 := Lib.hid (WS.app (new := numB s.length) HW7.out hrow8 hgr8 hat8); have e8 : w8.cell? (ad2.add k) = some (.string ⟨s.toArray⟩) := cellk HQ8.out.2 (by rw [block_of_add]; exact had2) dl2; clear hrow8 hgr8 hat8)
                | (refine step_of_wp rfl (wp_append_rowW_string _ (.tmp 67) (.tmp 71) 22 9 rfl 5 i0 Tryd.underlying22 Tryd.underlying9 hi hz0 hz1 hz2 (.slice A8 (b1.length + (numB s.length).length) c8) (b1.length + (numB s.length).length) (bv b1 ++ bv (numB s.length)) rfl (by have := HQ8.out.1.choose_spec.2.1.1; rw [List.length_append, bv_append] at this; exact this) ⟨s.toArray⟩ rfl (by rw [hsz]; unfold maxLen; omega) (by rw [hsz]; omega) ?_); intro v9 w9 hrow9 hgr9 hat9; rw [hsz, strCells_txt] at hrow9; obtain ⟨A9, c9, rfl, hc9⟩ := hrow9.form; have HQ9 := Lib.hid (WS.app (new := s) HQ8.out (by rw [List.length_append, bv_append]; exact hrow9) hgr9 hat9); clear hrow9 hgr9 hat9)
                | (go_simp; go_at_call 39; refine (num5 s.length _ (by omega)).mono ?_; rintro e w7 ⟨A7, c7, rfl, hown7, hb7⟩; have HRD7 := Lib.hid (Reads.of_own hown7); have HW7 := Lib.hid (WS.below (WS.below HW6.out (Below.drew (Below.refl _ _))) hb7); have e7 : w7.cell? (ad2.add k) = some (.string ⟨s.toArray⟩) := cellk HW7.out.2 (by rw [block_of_add]; exact had2) dl2; clear hown7 hb7))
              all_goals
                go_wp2_with (fail)
                have hq9 := HQ9.out
                rw [List.append_assoc, show numB s.length ++ s = textB s from rfl] at hq9
                have hbe : b2 = b1 ++ textB s := by rw [HB2.out, HSK.out]; rfl
                refine ⟨⟨k + 1, by omega, by go_num, ?_, ?_, Lib.hid (fun j s' hj hs' => ?_)⟩, by simp [intOf]; omega⟩
                · rw [HE.out, hbe]
                  exact Lib.hid hq9
                · rw [HE.out, hbe, List.length_append]
                  have : (textB s).length = (numB s.length).length + s.length := by unfold textB; rw [List.length_append]
                  omega
                · rcases Nat.lt_or_ge j k with h | h
                  · exact H3.out j s' h hs'
                  · obtain rfl : j = k := by omega
                    rw [HSK.out] at hs'
                    obtain rfl := Option.some.inj hs'
                    exact h300
            · have k300 : decide ((300 : Int) < (s.length : Int)) = true := decide_eq_true (by omega)
              go_wp2_with (fail)
              go_ret
              exact ⟨rfl, HQ.out.2⟩
        · have hkl : k < nl := (HNO.out k hkN).resolve_right hks
          obtain ⟨x, hx⟩ : ∃ x, us[k]? = some x := ⟨us[k]'(by rw [HL.out]; exact hkl), List.getElem?_eq_getElem _⟩
          have hx64 := HU.out x (List.mem_of_getElem? hx)
          obtain ⟨ad, rfl, had, hcl⟩ := HR.out.2 (by omega)
          have d0 : wr.cell? (ad.add k) = some (.int .u64 x) := cellk HBW.out (by rw [block_of_add]; exact had) (hcl k _ (by rw [List.getElem?_map, hx]; rfl))
          have hb1e : b1 = bs ++ numB x := by rw [HB1.out, hx]; rfl
          have HB1E := Lib.hid hb1e
          have hin1 : (k : Int) < (nl : Int) := by omega
          have dl : w.cell? (ad.add k) = some (.int .u64 x) := hcl k _ (by rw [List.getElem?_map, hx]; rfl)
          have hx10 := numB_len10 hx64
          clear hx hcl hb1e
          go_wp2_with (fail)
          refine (numW C P x bs wr HC.out.1 hx64 (by rw [← HNL.out]; omega)).mono ?_
          intro e w3 h3
          obtain ⟨rfl, hws3⟩ := WS.wrote HC.out HBW.out h3
          have HW3 := Lib.hid hws3
          have d3 : w3.cell? (ad.add k) = some (.int .u64 x) := cellk hws3.2 (by rw [block_of_add]; exact had) dl
          clear h3 hws3
          go_wp2_with (fail)
          refine (num5 x w3 hx64).mono ?_
          rintro e w4 ⟨A4, c4, rfl, hown4, hb4⟩
          have hrd4 := Reads.of_own hown4
          have hws4 := HW3.out.below hb4
          obtain ⟨m4, hm4⟩ : ∃ m4, m4 = (numB x).length := ⟨_, rfl⟩
          rw [← hm4] at hrd4 hx10 ⊢
          have HM4 := Lib.hid hm4
          have HRD4 := Lib.hid hrd4
          have HW4 := Lib.hid hws4
          have hrow4 := hws4.1.choose_spec.2.1.1
          rw [← HNL.out] at hrow4
          have HRW4 := Lib.hid hrow4
          clear hown4 hb4 hrd4 hws4 hm4 hrow4
          go_wp2_with (at_builtin; (refine wpList_append_rowW _ rfl (.tmp 37) (.tmp 42) 22 rfl 5 i0 (.int .u8 0) 1 Tryd.underlying22 hi hz0 hz1 hz2 rfl (.slice Av n cv) n (bv bs) rfl HRW4.out _ A4 m4 c4 (bv (numB x)) rfl HRD4.out (bv_one _) (by unfold maxLen; omega) (by omega) ?_; intro v5 w5 hrow5 hgr5 hat5; obtain ⟨A5, c5, rfl, hc5⟩ := hrow5.form; have HQ5 := Lib.hid (WS.app (new := numB x) HW4.out (by rw [← HNL.out, ← HM4.out]; exact hrow5) (by rw [← HNL.out]; exact hgr5) (by rw [← HNL.out]; exact hat5)); clear hrow5 hgr5 hat5))
          have hb1l : n + m4 = b1.length := by rw [HB1E.out, List.length_append, ← HNL.out, ← HM4.out]
          have HQ := HQ5
          rw [← HB1E.out] at HQ
          refine ⟨⟨k + 1, by omega, by go_num, ?_, ?_, Lib.hid (fun j s hj hs => ?_)⟩, by simp [intOf]; omega⟩
          · have e : b2 = b1 := by rw [HB2.out, List.getElem?_eq_none (by rw [HL2.out]; omega)]; simp [oneT]
            rw [HE.out, e]
            exact HQ
          · rw [HE.out, HB2.out, List.getElem?_eq_none (by rw [HL2.out]; omega)]
            simp only [oneT, List.append_nil]
            omega
          · rcases Nat.lt_or_ge j k with h | h
            · exact H3.out j s h hs
            · rw [List.getElem?_eq_none (by rw [HL2.out]; omega)] at hs
              cases hs
      · obtain rfl : k = N := by omega
        obtain ⟨Av, cv, rfl, hcv⟩ := HW.out.form
        obtain ⟨⟨C, hC1, hC2, hC3⟩, hbw⟩ := HW.out
        obtain ⟨Aw, cw, h1, h2, h3, h4⟩ := hC1
        obtain ⟨E, hE⟩ : ∃ E, E = encF us ss k := ⟨_, rfl⟩
        have hes : E = encR us ss 0 k := by
          have := encF_split us ss k 0
          rw [Nat.zero_add] at this
          rw [hE, this]
          rfl
        have hwant := hC2.1.reads
        rw [← hE] at h1 h2 hwant hln hcv ⊢
        obtain ⟨LE, hLE⟩ : ∃ LE, LE = E.length := ⟨_, rfl⟩
        rw [← hLE] at h1 h2 hwant hln hcv ⊢
        have d0 : wr.cell? ⟨P, 0, none⟩ = some (.slice Aw LE cw) := by rw [cell_of_blk h1]; rfl
        have hPl : P < wr.heap.size := lt_of_heap h1
        have HLE := Lib.hid hLE
        have HES := Lib.hid hes
        have HWT := Lib.hid hwant
        have H2 := Lib.hid h2
        have HBW := Lib.hid hbw
        clear hE hes hwant h1 h2 h3 h4 hC2 hC3 hbw hLE HW
        go_wp2_with (fail)
        refine (cloneB Aw LE cw _ (bv E) wr H2.out.reads (Nat.le_refl _) (bv_one _) (by omega)).mono ?_
        rintro e w3 ⟨v3, rfl, hown3, hb3⟩
        obtain ⟨A3, c3, rfl, hc3⟩ := owns_form hown3
        have hrd := rdNew (bs := E) (by rw [← HLE.out]; exact hown3)
        rw [← HLE.out] at hrd
        have hbq := hb3.alloc hb3.size (.cells #[.slice A3 LE c3, .bool false] 68 (0, 0))
        have hQ := hb3.size
        have HRD0 := Lib.hid hrd
        have HBQ0 := Lib.hid hbq
        clear hrd hbq hown3 hb3
        go_wp2_with (fail)
        obtain ⟨Q, hQe⟩ : ∃ Q, Q = w3.heap.size := ⟨_, rfl⟩
        rw [← hQe] at HRD0 hQ ⊢
        generalize w3.alloc (.cells #[.slice A3 LE c3, .bool false] 68 (0, 0)) = w4 at *
        clear hQe hc3
        obtain ⟨wo, rfl⟩ : ∃ wo : World, wo = wr := ⟨_, rfl⟩
        go_loopw [84] (fun i wr => ∃ j : Nat, j ≤ k ∧ i = .int .i64 j ∧ Hid (RdAt wr Q (encR us ss j (k - j)) false) ∧ Hid (Below wo.heap.size wo wr) ∧ (encR us ss j (k - j)).length ≤ LE) (fun i _ => k - (intOf i).toNat)
        case atStart => exact ⟨0, Nat.zero_le _, rfl, by rw [Nat.sub_zero, ← HES.out]; exact HRD0, HBQ0, by rw [Nat.sub_zero, ← HES.out, ← HLE.out]; exact Nat.le_refl _⟩
        case round =>
          obtain ⟨j, hj, rfl, HRD, HBQ, hjl⟩ := hrel
          clear HRD0 HBQ0
          by_cases hjk : j < k
          · have hin0 : (0 : Int) ≤ (j : Int) := by omega
            obtain ⟨r1, hr1⟩ : ∃ r1, r1 = oneT ss[j]? ++ encR us ss (j + 1) (k - (j + 1)) := ⟨_, rfl⟩
            have her : encR us ss j (k - j) = oneN us[j]? ++ r1 := by
              rw [show k - j = (k - (j + 1)) + 1 by omega, hr1]
              simp only [encR, itemF, List.append_assoc]
            have HER := Lib.hid her
            have HR1 := Lib.hid hr1
            have hd0 := HRD.out
            rw [her] at hd0 hjl
            have HD0 := Lib.hid hd0
            have hr1l : r1.length ≤ LE := by rw [List.length_append] at hjl; omega
            clear her hr1 hd0
            by_cases hkl : j < nl
            · obtain ⟨x, hx⟩ : ∃ x, us[j]? = some x := ⟨us[j]'(by rw [HL.out]; exact hkl), List.getElem?_eq_getElem _⟩
              have hx64 := HU.out x (List.mem_of_getElem? hx)
              obtain ⟨ad, rfl, had, hcl⟩ := HR.out.2 (by omega)
              have dl : w.cell? (ad.add j) = some (.int .u64 x) := hcl j _ (by rw [List.getElem?_map, hx]; rfl)
              have c0 : wr.cell? (ad.add j) = some (.int .u64 x) := cellk (HBW.out.trans (HBQ.out.mono HBW.out.size)) (by rw [block_of_add]; exact had) dl
              have hin1 : (j : Int) < (nl : Int) := by omega
              have hd1 := HD0.out
              rw [hx] at hd1 hjl
              have HD1 := Lib.hid (show RdAt wr Q (numB x ++ r1) false from hd1)
              have hjl : (numB x ++ r1).length ≤ LE := hjl
              have HN1 := Lib.hid (readNum_numB x r1 hx64)
              clear hx hcl hd1
              by_cases hks : j < ns
              · skip
                have hk2 : decide (j < ns) = true := decide_eq_true hks
                have hk1 : decide (j < nl) = true := decide_eq_true hkl
                obtain ⟨s, hsk⟩ : ∃ s, ss[j]? = some s := ⟨ss[j]'(by rw [HL2.out]; exact hks), List.getElem?_eq_getElem _⟩
                have hs300 := H3.out j s hjk hsk
                obtain ⟨ad2, rfl, had2, hcl2⟩ := HR2.out.2 (by omega)
                have dl2 : w.cell? (ad2.add j) = some (.string ⟨s.toArray⟩) := hcl2 j (txt s) (by rw [List.getElem?_map, hsk]; rfl)
                have d0' : wr.cell? (ad2.add j) = some (.string ⟨s.toArray⟩) := cellk (HBW.out.trans (HBQ.out.mono HBW.out.size)) (by rw [block_of_add]; exact had2) dl2
                have hin2 : (j : Int) < (ns : Int) := by omega
                obtain ⟨r2, hr2⟩ : ∃ r2, r2 = encR us ss (j + 1) (k - (j + 1)) := ⟨_, rfl⟩
                have hr1e : r1 = textB s ++ r2 := by rw [HR1.out, hsk, hr2]; rfl
                have HT1 := Lib.hid (readText_text s r2 300 (by omega) hs300)
                have HRE := Lib.hid hr1e
                have HR2E := Lib.hid hr2
                have hr2l : (textB s ++ r2).length ≤ LE := by rw [← hr1e]; exact hr1l
                clear hsk hcl2 hr1e hr2
                go_wp2_with (fail)
                have b0 : wr.cell? ⟨Q, 1, none⟩ = some (.bool false) := by
                  obtain ⟨A5, c5', k1, _⟩ := HD0.out
                  rw [cell_of_blk k1]
                  rfl
                clear HR HR2 HL HL2 HU HNO HER HRD HES HWT H2 hmx hNl hNs hs1 hs2 d0 g1 g2
                have hle : LE ≤ 9900 := by omega
                refine wp_region_noPanic ?_
                refine wp_region_held_drew (S := fun w' => w'.cell? (ad.add j) = some (.int .u64 x) ∧ w'.cell? (ad2.add j) = some (.string ⟨s.toArray⟩) ∧ w'.cell? ⟨Q, 1, none⟩ = some (.bool false)) (by kernel_rfl) ⟨c0, d0', b0⟩ (fun hSS => ?_)
                refine' wpAnyH_take (i := 0) (oi := _) (v := ?v0b) rfl (by kernel_rfl) (by kernel_rfl) (by kernel_rfl) (fun _ _ _ h => h) (Or.inl ⟨by rfl, ?hy0b⟩) hSS ?rest0b
                case hy0b => ((intro w' hSw; (try dsimp only at hSw)); go_simp <;> with_reducible rfl)
                set_option linter.unusedSimpArgs false in try simp only [Act.put, List.setIfInBounds_toArray, List.set_cons_zero, List.set_cons_succ, List.getElem_toArray, List.getElem_cons_zero, List.getElem_cons_succ]
                refine' wpAnyH_take (i := 1) (oi := _) (v := ?v1b) rfl (by kernel_rfl) (by kernel_rfl) (by kernel_rfl) (fun _ _ _ h => h) (Or.inl ⟨by rfl, ?hy1b⟩) hSS ?rest1b
                case hy1b => ((intro w' hSw; (try dsimp only at hSw)); go_simp <;> with_reducible rfl)
                set_option linter.unusedSimpArgs false in try simp only [Act.put, List.setIfInBounds_toArray, List.set_cons_zero, List.set_cons_succ, List.getElem_toArray, List.getElem_cons_zero, List.getElem_cons_succ]
                refine' wpAnyH_take (i := 2) (oi := _) (v := ?v2b) rfl (by kernel_rfl) (by kernel_rfl) (by kernel_rfl) (fun _ _ _ h => h) (Or.inl ⟨by rfl, ?hy2b⟩) hSS ?rest2b
                case hy2b => ((intro w' hSw; (try dsimp only at hSw)); go_simp <;> with_reducible rfl)
                set_option linter.unusedSimpArgs false in try simp only [Act.put, List.setIfInBounds_toArray, List.set_cons_zero, List.set_cons_succ, List.getElem_toArray, List.getElem_cons_zero, List.getElem_cons_succ]
                refine' wpAnyH_take (i := 3) (oi := _) (v := ?v3b) rfl (by kernel_rfl) (by kernel_rfl) (by kernel_rfl) (fun _ _ _ h => h) (Or.inl ⟨by rfl, ?hy3b⟩) hSS ?rest3b
                case hy3b => ((intro w' hSw; (try dsimp only at hSw)); go_simp <;> with_reducible rfl)
                set_option linter.unusedSimpArgs false in try simp only [Act.put, List.setIfInBounds_toArray, List.set_cons_zero, List.set_cons_succ, List.getElem_toArray, List.getElem_cons_zero, List.getElem_cons_succ]
                refine' wpAnyH_take (i := 4) (oi := _) (v := ?v4b) rfl (by kernel_rfl) (by kernel_rfl) (by kernel_rfl) (fun _ _ _ h => h) (Or.inl ⟨by rfl, ?hy4b⟩) hSS ?rest4b
                case hy4b => ((intro w' hSw; (try dsimp only at hSw)); go_simp <;> with_reducible rfl)
                set_option linter.unusedSimpArgs false in try simp only [Act.put, List.setIfInBounds_toArray, List.set_cons_zero, List.set_cons_succ, List.getElem_toArray, List.getElem_cons_zero, List.getElem_cons_succ]
                refine' wpAnyH_take (i := 5) (oi := _) (v := ?v5b) rfl (by kernel_rfl) (by kernel_rfl) (by kernel_rfl) (fun _ _ _ h => h) (Or.inl ⟨by rfl, ?hy5b⟩) hSS ?rest5b
                case hy5b => ((intro w' hSw; (try dsimp only at hSw)); go_simp <;> with_reducible rfl)
                set_option linter.unusedSimpArgs false in try simp only [Act.put, List.setIfInBounds_toArray, List.set_cons_zero, List.set_cons_succ, List.getElem_toArray, List.getElem_cons_zero, List.getElem_cons_succ]
                refine' wpAnyH_take (i := 7) (oi := _) (v := ?v7b) rfl (by kernel_rfl) (by kernel_rfl) (by kernel_rfl) (fun _ _ _ h => h) (Or.inl ⟨by rfl, ?hy7b⟩) hSS ?rest7b
                case hy7b => ((intro w' hSw; (try dsimp only at hSw)); go_simp <;> with_reducible rfl)
                set_option linter.unusedSimpArgs false in try simp only [Act.put, List.setIfInBounds_toArray, List.set_cons_zero, List.set_cons_succ, List.getElem_toArray, List.getElem_cons_zero, List.getElem_cons_succ]
                refine' wpAnyH_take (i := 8) (oi := _) (v := ?v8b) rfl (by kernel_rfl) (by kernel_rfl) (by kernel_rfl) (fun _ _ _ h => h) (Or.inl ⟨by rfl, ?hy8b⟩) hSS ?rest8b
                case hy8b => ((intro w' hSw; (try dsimp only at hSw)); go_simp <;> with_reducible rfl)
                set_option linter.unusedSimpArgs false in try simp only [Act.put, List.setIfInBounds_toArray, List.set_cons_zero, List.set_cons_succ, List.getElem_toArray, List.getElem_cons_zero, List.getElem_cons_succ]
                refine' wpAnyH_take (i := 9) (oi := _) (v := ?v9b) rfl (by kernel_rfl) (by kernel_rfl) (by kernel_rfl) (fun _ _ _ h => h) (Or.inl ⟨by rfl, ?hy9b⟩) hSS ?rest9b
                case hy9b => ((intro w' hSw; (try dsimp only at hSw)); go_simp <;> with_reducible rfl)
                set_option linter.unusedSimpArgs false in try simp only [Act.put, List.setIfInBounds_toArray, List.set_cons_zero, List.set_cons_succ, List.getElem_toArray, List.getElem_cons_zero, List.getElem_cons_succ]
                refine' wpAnyH_take (i := 10) (oi := _) (v := ?v10b) rfl (by kernel_rfl) (by kernel_rfl) (by kernel_rfl) (fun _ _ _ h => h) (Or.inl ⟨by rfl, ?hy10b⟩) hSS ?rest10b
                case hy10b => ((intro w' hSw; (try dsimp only at hSw)); go_simp <;> with_reducible rfl)
                set_option linter.unusedSimpArgs false in try simp only [Act.put, List.setIfInBounds_toArray, List.set_cons_zero, List.set_cons_succ, List.getElem_toArray, List.getElem_cons_zero, List.getElem_cons_succ]
                refine wpAnyH_ready (rs := [6]) (by kernel_rfl) (by simp) ?_
                refine AllReadyH.cons rfl (fun K hK => ?_) AllReadyH.nil
                go_simp
                go_at_call 36
                refine (numR Q (numB x ++ r1) false _ (by exact HD1.out) (by omega)).mono ?_
                intro e w5 h5
                obtain ⟨rfl, hR5, hm5⟩ := numR_some HN1.out h5
                have HB5 := Lib.hid (show Below wo.heap.size wo w5 from (HBQ.out.drew).trans (hm5.below HBQ.out.size (fun k hk h => by omega)))
                have c5 : w5.cell? (ad.add j) = some (.int .u64 x) := cellk (HBW.out.trans (HB5.out.mono HBW.out.size)) (by rw [block_of_add]; exact had) dl
                have d5 : w5.cell? (ad2.add j) = some (.string ⟨s.toArray⟩) := cellk (HBW.out.trans (HB5.out.mono HBW.out.size)) (by rw [block_of_add]; exact had2) dl2
                have b5 : w5.cell? ⟨Q, 1, none⟩ = some (.bool false) := (by obtain ⟨A5, c5', k1, _⟩ := hR5; rw [cell_of_blk k1]; rfl)
                have HR5 := Lib.hid hR5
                clear h5 hR5 hm5
                refine hK.out _ _ ⟨c5, d5, b5⟩ (fun hSS => ?_)
                clear hK K
                set_option linter.unusedSimpArgs false in try simp only [Act.put, List.setIfInBounds_toArray, List.set_cons_zero, List.set_cons_succ, List.getElem_toArray, List.getElem_cons_zero, List.getElem_cons_succ]
                refine' wpAnyH_take (i := 11) (oi := _) (v := ?v11b) rfl (by kernel_rfl) (by kernel_rfl) (by kernel_rfl) (fun _ _ _ h => h) (Or.inl ⟨by rfl, ?hy11b⟩) hSS ?rest11b
                case hy11b => ((intro w' hSw; (try dsimp only at hSw)); go_simp <;> with_reducible rfl)
                set_option linter.unusedSimpArgs false in try simp only [Act.put, List.setIfInBounds_toArray, List.set_cons_zero, List.set_cons_succ, List.getElem_toArray, List.getElem_cons_zero, List.getElem_cons_succ]
                refine' wpAnyH_take (i := 12) (oi := _) (v := ?v12b) rfl (by kernel_rfl) (by kernel_rfl) (by kernel_rfl) (fun _ _ _ h => h) (Or.inl ⟨by rfl, ?hy12b⟩) hSS ?rest12b
                case hy12b => ((intro w' hSw; (try dsimp only at hSw)); go_simp <;> with_reducible rfl)
                set_option linter.unusedSimpArgs false in try simp only [Act.put, List.setIfInBounds_toArray, List.set_cons_zero, List.set_cons_succ, List.getElem_toArray, List.getElem_cons_zero, List.getElem_cons_succ]
                refine' wpAnyH_take (i := 13) (oi := _) (v := ?v13b) rfl (by kernel_rfl) (by kernel_rfl) (by kernel_rfl) (fun _ _ _ h => h) (Or.inl ⟨by rfl, ?hy13b⟩) hSS ?rest13b
                case hy13b => ((intro w' hSw; (try dsimp only at hSw)); go_simp <;> with_reducible rfl)
                set_option linter.unusedSimpArgs false in try simp only [Act.put, List.setIfInBounds_toArray, List.set_cons_zero, List.set_cons_succ, List.getElem_toArray, List.getElem_cons_zero, List.getElem_cons_succ]
                refine' wpAnyH_take (i := 14) (oi := _) (v := ?v14b) rfl (by kernel_rfl) (by kernel_rfl) (by kernel_rfl) (fun _ _ _ h => h) (Or.inl ⟨by rfl, ?hy14b⟩) hSS ?rest14b
                case hy14b => ((intro w' hSw; (try dsimp only at hSw)); go_simp <;> with_reducible rfl)
                set_option linter.unusedSimpArgs false in try simp only [Act.put, List.setIfInBounds_toArray, List.set_cons_zero, List.set_cons_succ, List.getElem_toArray, List.getElem_cons_zero, List.getElem_cons_succ]
                refine' wpAnyH_take (i := 15) (oi := _) (v := ?v15b) rfl (by kernel_rfl) (by kernel_rfl) (by kernel_rfl) (fun _ _ _ h => h) (Or.inl ⟨by rfl, ?hy15b⟩) hSS ?rest15b
                case hy15b => ((intro w' hSw; (try dsimp only at hSw)); go_simp <;> with_reducible rfl)
                set_option linter.unusedSimpArgs false in try simp only [Act.put, List.setIfInBounds_toArray, List.set_cons_zero, List.set_cons_succ, List.getElem_toArray, List.getElem_cons_zero, List.getElem_cons_succ]
                refine' wpAnyH_take (i := 16) (oi := _) (v := ?v16b) rfl (by kernel_rfl) (by kernel_rfl) (by kernel_rfl) (fun _ _ _ h => h) (Or.inl ⟨by rfl, ?hy16b⟩) hSS ?rest16b
                case hy16b => ((intro w' hSw; (try dsimp only at hSw)); go_simp <;> with_reducible rfl)
                set_option linter.unusedSimpArgs false in try simp only [Act.put, List.setIfInBounds_toArray, List.set_cons_zero, List.set_cons_succ, List.getElem_toArray, List.getElem_cons_zero, List.getElem_cons_succ]
                refine' wpAnyH_take (i := 17) (oi := _) (v := ?v17b) rfl (by kernel_rfl) (by kernel_rfl) (by kernel_rfl) (fun _ _ _ h => h) (Or.inl ⟨by rfl, ?hy17b⟩) hSS ?rest17b
                case hy17b => ((intro w' hSw; (try dsimp only at hSw)); go_simp <;> with_reducible rfl)
                set_option linter.unusedSimpArgs false in try simp only [Act.put, List.setIfInBounds_toArray, List.set_cons_zero, List.set_cons_succ, List.getElem_toArray, List.getElem_cons_zero, List.getElem_cons_succ]
                refine' wpAnyH_take (i := 18) (oi := _) (v := ?v18b) rfl (by kernel_rfl) (by kernel_rfl) (by kernel_rfl) (fun _ _ _ h => h) (Or.inl ⟨by rfl, ?hy18b⟩) hSS ?rest18b
                case hy18b => ((intro w' hSw; (try dsimp only at hSw)); go_simp <;> with_reducible rfl)
                set_option linter.unusedSimpArgs false in try simp only [Act.put, List.setIfInBounds_toArray, List.set_cons_zero, List.set_cons_succ, List.getElem_toArray, List.getElem_cons_zero, List.getElem_cons_succ]
                refine' wpAnyH_take (i := 19) (oi := _) (v := ?v19b) rfl (by kernel_rfl) (by kernel_rfl) (by kernel_rfl) (fun _ _ _ h => h) (Or.inl ⟨by rfl, ?hy19b⟩) hSS ?rest19b
                case hy19b => ((intro w' hSw; (try dsimp only at hSw)); go_simp <;> with_reducible rfl)
                set_option linter.unusedSimpArgs false in try simp only [Act.put, List.setIfInBounds_toArray, List.set_cons_zero, List.set_cons_succ, List.getElem_toArray, List.getElem_cons_zero, List.getElem_cons_succ]
                refine' wpAnyH_take (i := 21) (oi := _) (v := ?v21b) rfl (by kernel_rfl) (by kernel_rfl) (by kernel_rfl) (fun _ _ _ h => h) (Or.inl ⟨by rfl, ?hy21b⟩) hSS ?rest21b
                case hy21b => ((intro w' hSw; (try dsimp only at hSw)); go_simp <;> with_reducible rfl)
                set_option linter.unusedSimpArgs false in try simp only [Act.put, List.setIfInBounds_toArray, List.set_cons_zero, List.set_cons_succ, List.getElem_toArray, List.getElem_cons_zero, List.getElem_cons_succ]
                refine' wpAnyH_take (i := 22) (oi := _) (v := ?v22b) rfl (by kernel_rfl) (by kernel_rfl) (by kernel_rfl) (fun _ _ _ h => h) (Or.inl ⟨by rfl, ?hy22b⟩) hSS ?rest22b
                case hy22b => ((intro w' hSw; (try dsimp only at hSw)); go_simp <;> with_reducible rfl)
                set_option linter.unusedSimpArgs false in try simp only [Act.put, List.setIfInBounds_toArray, List.set_cons_zero, List.set_cons_succ, List.getElem_toArray, List.getElem_cons_zero, List.getElem_cons_succ]
                refine' wpAnyH_take (i := 23) (oi := _) (v := ?v23b) rfl (by kernel_rfl) (by kernel_rfl) (by kernel_rfl) (fun _ _ _ h => h) (Or.inl ⟨by rfl, ?hy23b⟩) hSS ?rest23b
                case hy23b => ((intro w' hSw; (try dsimp only at hSw)); go_simp <;> with_reducible rfl)
                set_option linter.unusedSimpArgs false in try simp only [Act.put, List.setIfInBounds_toArray, List.set_cons_zero, List.set_cons_succ, List.getElem_toArray, List.getElem_cons_zero, List.getElem_cons_succ]
                refine' wpAnyH_take (i := 24) (oi := _) (v := ?v24b) rfl (by kernel_rfl) (by kernel_rfl) (by kernel_rfl) (fun _ _ _ h => h) (Or.inl ⟨by rfl, ?hy24b⟩) hSS ?rest24b
                case hy24b => ((intro w' hSw; (try dsimp only at hSw)); go_simp <;> with_reducible rfl)
                set_option linter.unusedSimpArgs false in try simp only [Act.put, List.setIfInBounds_toArray, List.set_cons_zero, List.set_cons_succ, List.getElem_toArray, List.getElem_cons_zero, List.getElem_cons_succ]
                refine wpAnyH_ready (rs := [20]) (by kernel_rfl) (by simp) ?_
                refine AllReadyH.cons rfl (fun K hK => ?_) AllReadyH.nil
                go_simp
                go_at_call 37
                refine (textR Q 300 (textB s ++ r2) false _ (by exact (HRE.out ▸ HR5.out)) (by omega) (by omega)).mono ?_
                intro e w6 h6
                obtain ⟨rfl, hR6, hm6⟩ := textR_some HT1.out h6
                have HB6 := Lib.hid (show Below wo.heap.size wo w6 from (HB5.out).trans (hm6.below HB5.out.size (fun k hk h => by omega)))
                have c6 : w6.cell? (ad.add j) = some (.int .u64 x) := cellk (HBW.out.trans (HB6.out.mono HBW.out.size)) (by rw [block_of_add]; exact had) dl
                have d6 : w6.cell? (ad2.add j) = some (.string ⟨s.toArray⟩) := cellk (HBW.out.trans (HB6.out.mono HBW.out.size)) (by rw [block_of_add]; exact had2) dl2
                have b6 : w6.cell? ⟨Q, 1, none⟩ = some (.bool false) := (by obtain ⟨A5, c5', k1, _⟩ := hR6; rw [cell_of_blk k1]; rfl)
                have HR6 := Lib.hid hR6
                clear h6 hR6 hm6
                refine hK.out _ _ ⟨c6, d6, b6⟩ (fun hSS => ?_)
                clear hK K
                set_option linter.unusedSimpArgs false in try simp only [Act.put, List.setIfInBounds_toArray, List.set_cons_zero, List.set_cons_succ, List.getElem_toArray, List.getElem_cons_zero, List.getElem_cons_succ]
                refine' wpAnyH_take (i := 25) (oi := _) (v := ?v25b) rfl (by kernel_rfl) (by kernel_rfl) (by kernel_rfl) (fun _ _ _ h => h) (Or.inl ⟨by rfl, ?hy25b⟩) hSS ?rest25b
                case hy25b => ((intro w' hSw; (try dsimp only at hSw)); go_simp <;> with_reducible rfl)
                set_option linter.unusedSimpArgs false in try simp only [Act.put, List.setIfInBounds_toArray, List.set_cons_zero, List.set_cons_succ, List.getElem_toArray, List.getElem_cons_zero, List.getElem_cons_succ]
                refine' wpAnyH_take (i := 26) (oi := _) (v := ?v26b) rfl (by kernel_rfl) (by kernel_rfl) (by kernel_rfl) (fun _ _ _ h => h) (Or.inl ⟨by rfl, ?hy26b⟩) hSS ?rest26b
                case hy26b => ((intro w' hSw; (try dsimp only at hSw)); go_simp <;> with_reducible rfl)
                set_option linter.unusedSimpArgs false in try simp only [Act.put, List.setIfInBounds_toArray, List.set_cons_zero, List.set_cons_succ, List.getElem_toArray, List.getElem_cons_zero, List.getElem_cons_succ]
                refine' wpAnyH_take (i := 27) (oi := _) (v := ?v27b) rfl (by kernel_rfl) (by kernel_rfl) (by kernel_rfl) (fun _ _ _ h => h) (Or.inl ⟨by rfl, ?hy27b⟩) hSS ?rest27b
                case hy27b => ((intro w' hSw; (try dsimp only at hSw)); go_simp <;> with_reducible rfl)
                set_option linter.unusedSimpArgs false in try simp only [Act.put, List.setIfInBounds_toArray, List.set_cons_zero, List.set_cons_succ, List.getElem_toArray, List.getElem_cons_zero, List.getElem_cons_succ]
                refine' wpAnyH_take (i := 28) (oi := _) (v := ?v28b) rfl (by kernel_rfl) (by kernel_rfl) (by kernel_rfl) (fun _ _ _ h => h) (Or.inl ⟨by rfl, ?hy28b⟩) hSS ?rest28b
                case hy28b => ((intro w' hSw; (try dsimp only at hSw)); go_simp <;> with_reducible rfl)
                set_option linter.unusedSimpArgs false in try simp only [Act.put, List.setIfInBounds_toArray, List.set_cons_zero, List.set_cons_succ, List.getElem_toArray, List.getElem_cons_zero, List.getElem_cons_succ]
                refine' wpAnyH_take (i := 29) (oi := _) (v := ?v29b) rfl (by kernel_rfl) (by kernel_rfl) (by kernel_rfl) (fun _ _ _ h => h) (Or.inl ⟨by rfl, ?hy29b⟩) hSS ?rest29b
                case hy29b => ((intro w' hSw; (try dsimp only at hSw)); go_simp <;> with_reducible rfl)
                set_option linter.unusedSimpArgs false in try simp only [Act.put, List.setIfInBounds_toArray, List.set_cons_zero, List.set_cons_succ, List.getElem_toArray, List.getElem_cons_zero, List.getElem_cons_succ]
                refine' wpAnyH_take (i := 30) (oi := _) (v := ?v30b) rfl (by kernel_rfl) (by kernel_rfl) (by kernel_rfl) (fun _ _ _ h => h) (Or.inl ⟨by rfl, ?hy30b⟩) hSS ?rest30b
                case hy30b => ((intro w' hSw; (try dsimp only at hSw)); go_simp <;> with_reducible rfl)
                set_option linter.unusedSimpArgs false in try simp only [Act.put, List.setIfInBounds_toArray, List.set_cons_zero, List.set_cons_succ, List.getElem_toArray, List.getElem_cons_zero, List.getElem_cons_succ]
                refine' wpAnyH_take (i := 31) (oi := _) (v := ?v31b) rfl (by kernel_rfl) (by kernel_rfl) (by kernel_rfl) (fun _ _ _ h => h) (Or.inl ⟨by rfl, ?hy31b⟩) hSS ?rest31b
                case hy31b => ((intro w' hSw; (try dsimp only at hSw)); go_simp <;> with_reducible rfl)
                set_option linter.unusedSimpArgs false in try simp only [Act.put, List.setIfInBounds_toArray, List.set_cons_zero, List.set_cons_succ, List.getElem_toArray, List.getElem_cons_zero, List.getElem_cons_succ]
                refine' wpAnyH_take (i := 32) (oi := _) (v := ?v32b) rfl (by kernel_rfl) (by kernel_rfl) (by kernel_rfl) (fun _ _ _ h => h) (Or.inl ⟨by rfl, ?hy32b⟩) hSS ?rest32b
                case hy32b => ((intro w' hSw; (try dsimp only at hSw)); go_simp <;> with_reducible rfl)
                set_option linter.unusedSimpArgs false in try simp only [Act.put, List.setIfInBounds_toArray, List.set_cons_zero, List.set_cons_succ, List.getElem_toArray, List.getElem_cons_zero, List.getElem_cons_succ]
                refine' wpAnyH_take (i := 33) (oi := _) (v := ?v33b) rfl (by kernel_rfl) (by kernel_rfl) (by kernel_rfl) (fun _ _ _ h => h) (Or.inl ⟨by rfl, ?hy33b⟩) hSS ?rest33b
                case hy33b => ((intro w' hSw; (try dsimp only at hSw)); go_simp <;> with_reducible rfl)
                set_option linter.unusedSimpArgs false in try simp only [Act.put, List.setIfInBounds_toArray, List.set_cons_zero, List.set_cons_succ, List.getElem_toArray, List.getElem_cons_zero, List.getElem_cons_succ]
                refine wpAnyH_done (by kernel_rfl) ?_ _
                refine NoPanic.normal ?_
                go_wp2_with (fail)
                refine ⟨⟨j + 1, by omega, by go_num, ?_, HB6, ?_⟩, by simp [intOf]; omega⟩
                · rw [← HR2E.out]; exact HR6
                · rw [← HR2E.out]; rw [List.length_append] at hr2l; omega
              · skip
                have hk2 : decide (j < ns) = false := decide_eq_false hks
                have hk1 : decide (j < nl) = true := decide_eq_true hkl
                have hr1e : r1 = encR us ss (j + 1) (k - (j + 1)) := by rw [HR1.out, List.getElem?_eq_none (by rw [HL2.out]; omega)]; simp [oneT]
                have HRE := Lib.hid hr1e
                clear hr1e
                go_wp2_with (fail)
                have b0 : wr.cell? ⟨Q, 1, none⟩ = some (.bool false) := by
                  obtain ⟨A5, c5', k1, _⟩ := HD0.out
                  rw [cell_of_blk k1]
                  rfl
                clear HR HR2 HL HL2 HU HNO HER HRD HES HWT H2 hmx hNl hNs hs1 hs2 d0 g1 g2
                have hle : LE ≤ 9900 := by omega
                refine wp_region_noPanic ?_
                refine wp_region_held_drew (S := fun w' => w'.cell? (ad.add j) = some (.int .u64 x) ∧ w'.cell? ⟨Q, 1, none⟩ = some (.bool false)) (by kernel_rfl) ⟨c0, b0⟩ (fun hSS => ?_)
                refine' wpAnyH_take (i := 0) (oi := _) (v := ?v0a) rfl (by kernel_rfl) (by kernel_rfl) (by kernel_rfl) (fun _ _ _ h => h) (Or.inl ⟨by rfl, ?hy0a⟩) hSS ?rest0a
                case hy0a => ((intro w' hSw; (try dsimp only at hSw)); go_simp <;> with_reducible rfl)
                set_option linter.unusedSimpArgs false in try simp only [Act.put, List.setIfInBounds_toArray, List.set_cons_zero, List.set_cons_succ, List.getElem_toArray, List.getElem_cons_zero, List.getElem_cons_succ]
                refine' wpAnyH_take (i := 1) (oi := _) (v := ?v1a) rfl (by kernel_rfl) (by kernel_rfl) (by kernel_rfl) (fun _ _ _ h => h) (Or.inl ⟨by rfl, ?hy1a⟩) hSS ?rest1a
                case hy1a => ((intro w' hSw; (try dsimp only at hSw)); go_simp <;> with_reducible rfl)
                set_option linter.unusedSimpArgs false in try simp only [Act.put, List.setIfInBounds_toArray, List.set_cons_zero, List.set_cons_succ, List.getElem_toArray, List.getElem_cons_zero, List.getElem_cons_succ]
                refine' wpAnyH_take (i := 2) (oi := _) (v := ?v2a) rfl (by kernel_rfl) (by kernel_rfl) (by kernel_rfl) (fun _ _ _ h => h) (Or.inl ⟨by rfl, ?hy2a⟩) hSS ?rest2a
                case hy2a => ((intro w' hSw; (try dsimp only at hSw)); go_simp <;> with_reducible rfl)
                set_option linter.unusedSimpArgs false in try simp only [Act.put, List.setIfInBounds_toArray, List.set_cons_zero, List.set_cons_succ, List.getElem_toArray, List.getElem_cons_zero, List.getElem_cons_succ]
                refine' wpAnyH_take (i := 3) (oi := _) (v := ?v3a) rfl (by kernel_rfl) (by kernel_rfl) (by kernel_rfl) (fun _ _ _ h => h) (Or.inl ⟨by rfl, ?hy3a⟩) hSS ?rest3a
                case hy3a => ((intro w' hSw; (try dsimp only at hSw)); go_simp <;> with_reducible rfl)
                set_option linter.unusedSimpArgs false in try simp only [Act.put, List.setIfInBounds_toArray, List.set_cons_zero, List.set_cons_succ, List.getElem_toArray, List.getElem_cons_zero, List.getElem_cons_succ]
                refine' wpAnyH_take (i := 4) (oi := _) (v := ?v4a) rfl (by kernel_rfl) (by kernel_rfl) (by kernel_rfl) (fun _ _ _ h => h) (Or.inl ⟨by rfl, ?hy4a⟩) hSS ?rest4a
                case hy4a => ((intro w' hSw; (try dsimp only at hSw)); go_simp <;> with_reducible rfl)
                set_option linter.unusedSimpArgs false in try simp only [Act.put, List.setIfInBounds_toArray, List.set_cons_zero, List.set_cons_succ, List.getElem_toArray, List.getElem_cons_zero, List.getElem_cons_succ]
                refine' wpAnyH_take (i := 5) (oi := _) (v := ?v5a) rfl (by kernel_rfl) (by kernel_rfl) (by kernel_rfl) (fun _ _ _ h => h) (Or.inl ⟨by rfl, ?hy5a⟩) hSS ?rest5a
                case hy5a => ((intro w' hSw; (try dsimp only at hSw)); go_simp <;> with_reducible rfl)
                set_option linter.unusedSimpArgs false in try simp only [Act.put, List.setIfInBounds_toArray, List.set_cons_zero, List.set_cons_succ, List.getElem_toArray, List.getElem_cons_zero, List.getElem_cons_succ]
                refine' wpAnyH_take (i := 7) (oi := _) (v := ?v7a) rfl (by kernel_rfl) (by kernel_rfl) (by kernel_rfl) (fun _ _ _ h => h) (Or.inl ⟨by rfl, ?hy7a⟩) hSS ?rest7a
                case hy7a => ((intro w' hSw; (try dsimp only at hSw)); go_simp <;> with_reducible rfl)
                set_option linter.unusedSimpArgs false in try simp only [Act.put, List.setIfInBounds_toArray, List.set_cons_zero, List.set_cons_succ, List.getElem_toArray, List.getElem_cons_zero, List.getElem_cons_succ]
                refine' wpAnyH_take (i := 8) (oi := _) (v := ?v8a) rfl (by kernel_rfl) (by kernel_rfl) (by kernel_rfl) (fun _ _ _ h => h) (Or.inl ⟨by rfl, ?hy8a⟩) hSS ?rest8a
                case hy8a => ((intro w' hSw; (try dsimp only at hSw)); go_simp <;> with_reducible rfl)
                set_option linter.unusedSimpArgs false in try simp only [Act.put, List.setIfInBounds_toArray, List.set_cons_zero, List.set_cons_succ, List.getElem_toArray, List.getElem_cons_zero, List.getElem_cons_succ]
                refine' wpAnyH_take (i := 9) (oi := _) (v := ?v9a) rfl (by kernel_rfl) (by kernel_rfl) (by kernel_rfl) (fun _ _ _ h => h) (Or.inl ⟨by rfl, ?hy9a⟩) hSS ?rest9a
                case hy9a => ((intro w' hSw; (try dsimp only at hSw)); go_simp <;> with_reducible rfl)
                set_option linter.unusedSimpArgs false in try simp only [Act.put, List.setIfInBounds_toArray, List.set_cons_zero, List.set_cons_succ, List.getElem_toArray, List.getElem_cons_zero, List.getElem_cons_succ]
                refine' wpAnyH_take (i := 10) (oi := _) (v := ?v10a) rfl (by kernel_rfl) (by kernel_rfl) (by kernel_rfl) (fun _ _ _ h => h) (Or.inl ⟨by rfl, ?hy10a⟩) hSS ?rest10a
                case hy10a => ((intro w' hSw; (try dsimp only at hSw)); go_simp <;> with_reducible rfl)
                set_option linter.unusedSimpArgs false in try simp only [Act.put, List.setIfInBounds_toArray, List.set_cons_zero, List.set_cons_succ, List.getElem_toArray, List.getElem_cons_zero, List.getElem_cons_succ]
                refine wpAnyH_ready (rs := [6]) (by kernel_rfl) (by simp) ?_
                refine AllReadyH.cons rfl (fun K hK => ?_) AllReadyH.nil
                go_simp
                go_at_call 36
                refine (numR Q (numB x ++ r1) false _ (by exact HD1.out) (by omega)).mono ?_
                intro e w5 h5
                obtain ⟨rfl, hR5, hm5⟩ := numR_some HN1.out h5
                have HB5 := Lib.hid (show Below wo.heap.size wo w5 from (HBQ.out.drew).trans (hm5.below HBQ.out.size (fun k hk h => by omega)))
                have c5 : w5.cell? (ad.add j) = some (.int .u64 x) := cellk (HBW.out.trans (HB5.out.mono HBW.out.size)) (by rw [block_of_add]; exact had) dl
                have b5 : w5.cell? ⟨Q, 1, none⟩ = some (.bool false) := (by obtain ⟨A5, c5', k1, _⟩ := hR5; rw [cell_of_blk k1]; rfl)
                have HR5 := Lib.hid hR5
                clear h5 hR5 hm5
                refine hK.out _ _ ⟨c5, b5⟩ (fun hSS => ?_)
                clear hK K
                set_option linter.unusedSimpArgs false in try simp only [Act.put, List.setIfInBounds_toArray, List.set_cons_zero, List.set_cons_succ, List.getElem_toArray, List.getElem_cons_zero, List.getElem_cons_succ]
                refine' wpAnyH_take (i := 11) (oi := _) (v := ?v11a) rfl (by kernel_rfl) (by kernel_rfl) (by kernel_rfl) (fun _ _ _ h => h) (Or.inl ⟨by rfl, ?hy11a⟩) hSS ?rest11a
                case hy11a => ((intro w' hSw; (try dsimp only at hSw)); go_simp <;> with_reducible rfl)
                set_option linter.unusedSimpArgs false in try simp only [Act.put, List.setIfInBounds_toArray, List.set_cons_zero, List.set_cons_succ, List.getElem_toArray, List.getElem_cons_zero, List.getElem_cons_succ]
                refine' wpAnyH_take (i := 12) (oi := _) (v := ?v12a) rfl (by kernel_rfl) (by kernel_rfl) (by kernel_rfl) (fun _ _ _ h => h) (Or.inl ⟨by rfl, ?hy12a⟩) hSS ?rest12a
                case hy12a => ((intro w' hSw; (try dsimp only at hSw)); go_simp <;> with_reducible rfl)
                set_option linter.unusedSimpArgs false in try simp only [Act.put, List.setIfInBounds_toArray, List.set_cons_zero, List.set_cons_succ, List.getElem_toArray, List.getElem_cons_zero, List.getElem_cons_succ]
                refine' wpAnyH_take (i := 13) (oi := _) (v := ?v13a) rfl (by kernel_rfl) (by kernel_rfl) (by kernel_rfl) (fun _ _ _ h => h) (Or.inl ⟨by rfl, ?hy13a⟩) hSS ?rest13a
                case hy13a => ((intro w' hSw; (try dsimp only at hSw)); go_simp <;> with_reducible rfl)
                set_option linter.unusedSimpArgs false in try simp only [Act.put, List.setIfInBounds_toArray, List.set_cons_zero, List.set_cons_succ, List.getElem_toArray, List.getElem_cons_zero, List.getElem_cons_succ]
                refine' wpAnyH_take (i := 14) (oi := _) (v := ?v14a) rfl (by kernel_rfl) (by kernel_rfl) (by kernel_rfl) (fun _ _ _ h => h) (Or.inl ⟨by rfl, ?hy14a⟩) hSS ?rest14a
                case hy14a => ((intro w' hSw; (try dsimp only at hSw)); go_simp <;> with_reducible rfl)
                set_option linter.unusedSimpArgs false in try simp only [Act.put, List.setIfInBounds_toArray, List.set_cons_zero, List.set_cons_succ, List.getElem_toArray, List.getElem_cons_zero, List.getElem_cons_succ]
                refine' wpAnyH_take (i := 15) (oi := _) (v := ?v15a) rfl (by kernel_rfl) (by kernel_rfl) (by kernel_rfl) (fun _ _ _ h => h) (Or.inl ⟨by rfl, ?hy15a⟩) hSS ?rest15a
                case hy15a => ((intro w' hSw; (try dsimp only at hSw)); go_simp <;> with_reducible rfl)
                set_option linter.unusedSimpArgs false in try simp only [Act.put, List.setIfInBounds_toArray, List.set_cons_zero, List.set_cons_succ, List.getElem_toArray, List.getElem_cons_zero, List.getElem_cons_succ]
                refine' wpAnyH_take (i := 16) (oi := _) (v := ?v16a) rfl (by kernel_rfl) (by kernel_rfl) (by kernel_rfl) (fun _ _ _ h => h) (Or.inl ⟨by rfl, ?hy16a⟩) hSS ?rest16a
                case hy16a => ((intro w' hSw; (try dsimp only at hSw)); go_simp <;> with_reducible rfl)
                set_option linter.unusedSimpArgs false in try simp only [Act.put, List.setIfInBounds_toArray, List.set_cons_zero, List.set_cons_succ, List.getElem_toArray, List.getElem_cons_zero, List.getElem_cons_succ]
                refine' wpAnyH_take (i := 17) (oi := _) (v := ?v17a) rfl (by kernel_rfl) (by kernel_rfl) (by kernel_rfl) (fun _ _ _ h => h) (Or.inl ⟨by rfl, ?hy17a⟩) hSS ?rest17a
                case hy17a => ((intro w' hSw; (try dsimp only at hSw)); go_simp <;> with_reducible rfl)
                set_option linter.unusedSimpArgs false in try simp only [Act.put, List.setIfInBounds_toArray, List.set_cons_zero, List.set_cons_succ, List.getElem_toArray, List.getElem_cons_zero, List.getElem_cons_succ]
                refine' wpAnyH_take (i := 18) (oi := _) (v := ?v18a) rfl (by kernel_rfl) (by kernel_rfl) (by kernel_rfl) (fun _ _ _ h => h) (Or.inl ⟨by rfl, ?hy18a⟩) hSS ?rest18a
                case hy18a => ((intro w' hSw; (try dsimp only at hSw)); go_simp <;> with_reducible rfl)
                set_option linter.unusedSimpArgs false in try simp only [Act.put, List.setIfInBounds_toArray, List.set_cons_zero, List.set_cons_succ, List.getElem_toArray, List.getElem_cons_zero, List.getElem_cons_succ]
                refine' wpAnyH_take (i := 19) (oi := _) (v := _) rfl (by kernel_rfl) (by kernel_rfl) (by kernel_rfl) (fun _ _ _ h => h) (Or.inr ⟨by rfl, rfl⟩) hSS ?rest19a
                set_option linter.unusedSimpArgs false in try simp only [Act.put, List.setIfInBounds_toArray, List.set_cons_zero, List.set_cons_succ, List.getElem_toArray, List.getElem_cons_zero, List.getElem_cons_succ]
                refine' wpAnyH_take (i := 20) (oi := _) (v := _) rfl (by kernel_rfl) (by kernel_rfl) (by kernel_rfl) (fun _ _ _ h => h) (Or.inr ⟨by rfl, rfl⟩) hSS ?rest20a
                set_option linter.unusedSimpArgs false in try simp only [Act.put, List.setIfInBounds_toArray, List.set_cons_zero, List.set_cons_succ, List.getElem_toArray, List.getElem_cons_zero, List.getElem_cons_succ]
                refine' wpAnyH_take (i := 21) (oi := _) (v := _) rfl (by kernel_rfl) (by kernel_rfl) (by kernel_rfl) (fun _ _ _ h => h) (Or.inr ⟨by rfl, rfl⟩) hSS ?rest21a
                set_option linter.unusedSimpArgs false in try simp only [Act.put, List.setIfInBounds_toArray, List.set_cons_zero, List.set_cons_succ, List.getElem_toArray, List.getElem_cons_zero, List.getElem_cons_succ]
                refine' wpAnyH_take (i := 22) (oi := _) (v := _) rfl (by kernel_rfl) (by kernel_rfl) (by kernel_rfl) (fun _ _ _ h => h) (Or.inr ⟨by rfl, rfl⟩) hSS ?rest22a
                set_option linter.unusedSimpArgs false in try simp only [Act.put, List.setIfInBounds_toArray, List.set_cons_zero, List.set_cons_succ, List.getElem_toArray, List.getElem_cons_zero, List.getElem_cons_succ]
                refine' wpAnyH_take (i := 23) (oi := _) (v := _) rfl (by kernel_rfl) (by kernel_rfl) (by kernel_rfl) (fun _ _ _ h => h) (Or.inr ⟨by rfl, rfl⟩) hSS ?rest23a
                set_option linter.unusedSimpArgs false in try simp only [Act.put, List.setIfInBounds_toArray, List.set_cons_zero, List.set_cons_succ, List.getElem_toArray, List.getElem_cons_zero, List.getElem_cons_succ]
                refine' wpAnyH_take (i := 24) (oi := _) (v := _) rfl (by kernel_rfl) (by kernel_rfl) (by kernel_rfl) (fun _ _ _ h => h) (Or.inr ⟨by rfl, rfl⟩) hSS ?rest24a
                set_option linter.unusedSimpArgs false in try simp only [Act.put, List.setIfInBounds_toArray, List.set_cons_zero, List.set_cons_succ, List.getElem_toArray, List.getElem_cons_zero, List.getElem_cons_succ]
                refine' wpAnyH_take (i := 25) (oi := _) (v := _) rfl (by kernel_rfl) (by kernel_rfl) (by kernel_rfl) (fun _ _ _ h => h) (Or.inr ⟨by rfl, rfl⟩) hSS ?rest25a
                set_option linter.unusedSimpArgs false in try simp only [Act.put, List.setIfInBounds_toArray, List.set_cons_zero, List.set_cons_succ, List.getElem_toArray, List.getElem_cons_zero, List.getElem_cons_succ]
                refine' wpAnyH_take (i := 26) (oi := _) (v := ?v26a) rfl (by kernel_rfl) (by kernel_rfl) (by kernel_rfl) (fun _ _ _ h => h) (Or.inl ⟨by rfl, ?hy26a⟩) hSS ?rest26a
                case hy26a => ((intro w' hSw; (try dsimp only at hSw)); go_simp <;> with_reducible rfl)
                set_option linter.unusedSimpArgs false in try simp only [Act.put, List.setIfInBounds_toArray, List.set_cons_zero, List.set_cons_succ, List.getElem_toArray, List.getElem_cons_zero, List.getElem_cons_succ]
                refine' wpAnyH_take (i := 27) (oi := _) (v := ?v27a) rfl (by kernel_rfl) (by kernel_rfl) (by kernel_rfl) (fun _ _ _ h => h) (Or.inl ⟨by rfl, ?hy27a⟩) hSS ?rest27a
                case hy27a => ((intro w' hSw; (try dsimp only at hSw)); go_simp <;> with_reducible rfl)
                set_option linter.unusedSimpArgs false in try simp only [Act.put, List.setIfInBounds_toArray, List.set_cons_zero, List.set_cons_succ, List.getElem_toArray, List.getElem_cons_zero, List.getElem_cons_succ]
                refine' wpAnyH_take (i := 28) (oi := _) (v := ?v28a) rfl (by kernel_rfl) (by kernel_rfl) (by kernel_rfl) (fun _ _ _ h => h) (Or.inl ⟨by rfl, ?hy28a⟩) hSS ?rest28a
                case hy28a => ((intro w' hSw; (try dsimp only at hSw)); go_simp <;> with_reducible rfl)
                set_option linter.unusedSimpArgs false in try simp only [Act.put, List.setIfInBounds_toArray, List.set_cons_zero, List.set_cons_succ, List.getElem_toArray, List.getElem_cons_zero, List.getElem_cons_succ]
                refine' wpAnyH_take (i := 29) (oi := _) (v := ?v29a) rfl (by kernel_rfl) (by kernel_rfl) (by kernel_rfl) (fun _ _ _ h => h) (Or.inl ⟨by rfl, ?hy29a⟩) hSS ?rest29a
                case hy29a => ((intro w' hSw; (try dsimp only at hSw)); go_simp <;> with_reducible rfl)
                set_option linter.unusedSimpArgs false in try simp only [Act.put, List.setIfInBounds_toArray, List.set_cons_zero, List.set_cons_succ, List.getElem_toArray, List.getElem_cons_zero, List.getElem_cons_succ]
                refine' wpAnyH_take (i := 30) (oi := _) (v := ?v30a) rfl (by kernel_rfl) (by kernel_rfl) (by kernel_rfl) (fun _ _ _ h => h) (Or.inl ⟨by rfl, ?hy30a⟩) hSS ?rest30a
                case hy30a => ((intro w' hSw; (try dsimp only at hSw)); go_simp <;> with_reducible rfl)
                set_option linter.unusedSimpArgs false in try simp only [Act.put, List.setIfInBounds_toArray, List.set_cons_zero, List.set_cons_succ, List.getElem_toArray, List.getElem_cons_zero, List.getElem_cons_succ]
                refine' wpAnyH_take (i := 31) (oi := _) (v := ?v31a) rfl (by kernel_rfl) (by kernel_rfl) (by kernel_rfl) (fun _ _ _ h => h) (Or.inl ⟨by rfl, ?hy31a⟩) hSS ?rest31a
                case hy31a => ((intro w' hSw; (try dsimp only at hSw)); go_simp <;> with_reducible rfl)
                set_option linter.unusedSimpArgs false in try simp only [Act.put, List.setIfInBounds_toArray, List.set_cons_zero, List.set_cons_succ, List.getElem_toArray, List.getElem_cons_zero, List.getElem_cons_succ]
                refine' wpAnyH_take (i := 32) (oi := _) (v := ?v32a) rfl (by kernel_rfl) (by kernel_rfl) (by kernel_rfl) (fun _ _ _ h => h) (Or.inl ⟨by rfl, ?hy32a⟩) hSS ?rest32a
                case hy32a => ((intro w' hSw; (try dsimp only at hSw)); go_simp <;> with_reducible rfl)
                set_option linter.unusedSimpArgs false in try simp only [Act.put, List.setIfInBounds_toArray, List.set_cons_zero, List.set_cons_succ, List.getElem_toArray, List.getElem_cons_zero, List.getElem_cons_succ]
                refine' wpAnyH_take (i := 33) (oi := _) (v := ?v33a) rfl (by kernel_rfl) (by kernel_rfl) (by kernel_rfl) (fun _ _ _ h => h) (Or.inl ⟨by rfl, ?hy33a⟩) hSS ?rest33a
                case hy33a => ((intro w' hSw; (try dsimp only at hSw)); go_simp <;> with_reducible rfl)
                set_option linter.unusedSimpArgs false in try simp only [Act.put, List.setIfInBounds_toArray, List.set_cons_zero, List.set_cons_succ, List.getElem_toArray, List.getElem_cons_zero, List.getElem_cons_succ]
                refine wpAnyH_done (by kernel_rfl) ?_ _
                refine NoPanic.normal ?_
                go_wp2_with (fail)
                refine ⟨⟨j + 1, by omega, by go_num, ?_, HB5, ?_⟩, by simp [intOf]; omega⟩
                · rw [← HRE.out]; exact HR5
                · rw [← HRE.out]; exact hr1l
            · have hks : j < ns := (HNO.out j hjk).resolve_left hkl
              have hk2 : decide (j < ns) = true := decide_eq_true hks
              have hk1 : decide (j < nl) = false := decide_eq_false hkl
              obtain ⟨s, hsk⟩ : ∃ s, ss[j]? = some s := ⟨ss[j]'(by rw [HL2.out]; exact hks), List.getElem?_eq_getElem _⟩
              have hs300 := H3.out j s hjk hsk
              obtain ⟨ad2, rfl, had2, hcl2⟩ := HR2.out.2 (by omega)
              have dl2 : w.cell? (ad2.add j) = some (.string ⟨s.toArray⟩) := hcl2 j (txt s) (by rw [List.getElem?_map, hsk]; rfl)
              have d0' : wr.cell? (ad2.add j) = some (.string ⟨s.toArray⟩) := cellk (HBW.out.trans (HBQ.out.mono HBW.out.size)) (by rw [block_of_add]; exact had2) dl2
              have hin2 : (j : Int) < (ns : Int) := by omega
              obtain ⟨r2, hr2⟩ : ∃ r2, r2 = encR us ss (j + 1) (k - (j + 1)) := ⟨_, rfl⟩
              have hr1e : r1 = textB s ++ r2 := by rw [HR1.out, hsk, hr2]; rfl
              have HT1 := Lib.hid (readText_text s r2 300 (by omega) hs300)
              have HRE := Lib.hid hr1e
              have HR2E := Lib.hid hr2
              have hr2l : (textB s ++ r2).length ≤ LE := by rw [← hr1e]; exact hr1l
              clear hsk hcl2 hr1e hr2
              have hd1 : RdAt wr Q r1 false := by
                have := HD0.out
                rw [List.getElem?_eq_none (by rw [HL.out]; omega)] at this
                exact this
              rw [HRE.out] at hd1
              have HD1 := Lib.hid hd1
              clear hd1
              go_wp2_with (fail)
              have b0 : wr.cell? ⟨Q, 1, none⟩ = some (.bool false) := by
                obtain ⟨A5, c5', k1, _⟩ := HD0.out
                rw [cell_of_blk k1]
                rfl
              clear HR HR2 HL HL2 HU HNO HER HRD HES HWT H2 hmx hNl hNs hs1 hs2 d0 g1 g2
              have hle : LE ≤ 9900 := by omega
              refine wp_region_noPanic ?_
              refine wp_region_held_drew (S := fun w' => w'.cell? (ad2.add j) = some (.string ⟨s.toArray⟩) ∧ w'.cell? ⟨Q, 1, none⟩ = some (.bool false)) (by kernel_rfl) ⟨d0', b0⟩ (fun hSS => ?_)
              refine' wpAnyH_take (i := 0) (oi := _) (v := ?v0c) rfl (by kernel_rfl) (by kernel_rfl) (by kernel_rfl) (fun _ _ _ h => h) (Or.inl ⟨by rfl, ?hy0c⟩) hSS ?rest0c
              case hy0c => ((intro w' hSw; (try dsimp only at hSw)); go_simp <;> with_reducible rfl)
              set_option linter.unusedSimpArgs false in try simp only [Act.put, List.setIfInBounds_toArray, List.set_cons_zero, List.set_cons_succ, List.getElem_toArray, List.getElem_cons_zero, List.getElem_cons_succ]
              refine' wpAnyH_take (i := 1) (oi := _) (v := ?v1c) rfl (by kernel_rfl) (by kernel_rfl) (by kernel_rfl) (fun _ _ _ h => h) (Or.inl ⟨by rfl, ?hy1c⟩) hSS ?rest1c
              case hy1c => ((intro w' hSw; (try dsimp only at hSw)); go_simp <;> with_reducible rfl)
              set_option linter.unusedSimpArgs false in try simp only [Act.put, List.setIfInBounds_toArray, List.set_cons_zero, List.set_cons_succ, List.getElem_toArray, List.getElem_cons_zero, List.getElem_cons_succ]
              refine' wpAnyH_take (i := 2) (oi := _) (v := ?v2c) rfl (by kernel_rfl) (by kernel_rfl) (by kernel_rfl) (fun _ _ _ h => h) (Or.inl ⟨by rfl, ?hy2c⟩) hSS ?rest2c
              case hy2c => ((intro w' hSw; (try dsimp only at hSw)); go_simp <;> with_reducible rfl)
              set_option linter.unusedSimpArgs false in try simp only [Act.put, List.setIfInBounds_toArray, List.set_cons_zero, List.set_cons_succ, List.getElem_toArray, List.getElem_cons_zero, List.getElem_cons_succ]
              refine' wpAnyH_take (i := 3) (oi := _) (v := ?v3c) rfl (by kernel_rfl) (by kernel_rfl) (by kernel_rfl) (fun _ _ _ h => h) (Or.inl ⟨by rfl, ?hy3c⟩) hSS ?rest3c
              case hy3c => ((intro w' hSw; (try dsimp only at hSw)); go_simp <;> with_reducible rfl)
              set_option linter.unusedSimpArgs false in try simp only [Act.put, List.setIfInBounds_toArray, List.set_cons_zero, List.set_cons_succ, List.getElem_toArray, List.getElem_cons_zero, List.getElem_cons_succ]
              refine' wpAnyH_take (i := 4) (oi := _) (v := ?v4c) rfl (by kernel_rfl) (by kernel_rfl) (by kernel_rfl) (fun _ _ _ h => h) (Or.inl ⟨by rfl, ?hy4c⟩) hSS ?rest4c
              case hy4c => ((intro w' hSw; (try dsimp only at hSw)); go_simp <;> with_reducible rfl)
              set_option linter.unusedSimpArgs false in try simp only [Act.put, List.setIfInBounds_toArray, List.set_cons_zero, List.set_cons_succ, List.getElem_toArray, List.getElem_cons_zero, List.getElem_cons_succ]
              refine' wpAnyH_take (i := 5) (oi := _) (v := _) rfl (by kernel_rfl) (by kernel_rfl) (by kernel_rfl) (fun _ _ _ h => h) (Or.inr ⟨by rfl, rfl⟩) hSS ?rest5c
              set_option linter.unusedSimpArgs false in try simp only [Act.put, List.setIfInBounds_toArray, List.set_cons_zero, List.set_cons_succ, List.getElem_toArray, List.getElem_cons_zero, List.getElem_cons_succ]
              refine' wpAnyH_take (i := 6) (oi := _) (v := _) rfl (by kernel_rfl) (by kernel_rfl) (by kernel_rfl) (fun _ _ _ h => h) (Or.inr ⟨by rfl, rfl⟩) hSS ?rest6c
              set_option linter.unusedSimpArgs false in try simp only [Act.put, List.setIfInBounds_toArray, List.set_cons_zero, List.set_cons_succ, List.getElem_toArray, List.getElem_cons_zero, List.getElem_cons_succ]
              refine' wpAnyH_take (i := 7) (oi := _) (v := _) rfl (by kernel_rfl) (by kernel_rfl) (by kernel_rfl) (fun _ _ _ h => h) (Or.inr ⟨by rfl, rfl⟩) hSS ?rest7c
              set_option linter.unusedSimpArgs false in try simp only [Act.put, List.setIfInBounds_toArray, List.set_cons_zero, List.set_cons_succ, List.getElem_toArray, List.getElem_cons_zero, List.getElem_cons_succ]
              refine' wpAnyH_take (i := 8) (oi := _) (v := _) rfl (by kernel_rfl) (by kernel_rfl) (by kernel_rfl) (fun _ _ _ h => h) (Or.inr ⟨by rfl, rfl⟩) hSS ?rest8c
              set_option linter.unusedSimpArgs false in try simp only [Act.put, List.setIfInBounds_toArray, List.set_cons_zero, List.set_cons_succ, List.getElem_toArray, List.getElem_cons_zero, List.getElem_cons_succ]
              refine' wpAnyH_take (i := 9) (oi := _) (v := _) rfl (by kernel_rfl) (by kernel_rfl) (by kernel_rfl) (fun _ _ _ h => h) (Or.inr ⟨by rfl, rfl⟩) hSS ?rest9c
              set_option linter.unusedSimpArgs false in try simp only [Act.put, List.setIfInBounds_toArray, List.set_cons_zero, List.set_cons_succ, List.getElem_toArray, List.getElem_cons_zero, List.getElem_cons_succ]
              refine' wpAnyH_take (i := 10) (oi := _) (v := _) rfl (by kernel_rfl) (by kernel_rfl) (by kernel_rfl) (fun _ _ _ h => h) (Or.inr ⟨by rfl, rfl⟩) hSS ?rest10c
              set_option linter.unusedSimpArgs false in try simp only [Act.put, List.setIfInBounds_toArray, List.set_cons_zero, List.set_cons_succ, List.getElem_toArray, List.getElem_cons_zero, List.getElem_cons_succ]
              refine' wpAnyH_take (i := 11) (oi := _) (v := _) rfl (by kernel_rfl) (by kernel_rfl) (by kernel_rfl) (fun _ _ _ h => h) (Or.inr ⟨by rfl, rfl⟩) hSS ?rest11c
              set_option linter.unusedSimpArgs false in try simp only [Act.put, List.setIfInBounds_toArray, List.set_cons_zero, List.set_cons_succ, List.getElem_toArray, List.getElem_cons_zero, List.getElem_cons_succ]
              refine' wpAnyH_take (i := 12) (oi := _) (v := ?v12c) rfl (by kernel_rfl) (by kernel_rfl) (by kernel_rfl) (fun _ _ _ h => h) (Or.inl ⟨by rfl, ?hy12c⟩) hSS ?rest12c
              case hy12c => ((intro w' hSw; (try dsimp only at hSw)); go_simp <;> with_reducible rfl)
              set_option linter.unusedSimpArgs false in try simp only [Act.put, List.setIfInBounds_toArray, List.set_cons_zero, List.set_cons_succ, List.getElem_toArray, List.getElem_cons_zero, List.getElem_cons_succ]
              refine' wpAnyH_take (i := 13) (oi := _) (v := ?v13c) rfl (by kernel_rfl) (by kernel_rfl) (by kernel_rfl) (fun _ _ _ h => h) (Or.inl ⟨by rfl, ?hy13c⟩) hSS ?rest13c
              case hy13c => ((intro w' hSw; (try dsimp only at hSw)); go_simp <;> with_reducible rfl)
              set_option linter.unusedSimpArgs false in try simp only [Act.put, List.setIfInBounds_toArray, List.set_cons_zero, List.set_cons_succ, List.getElem_toArray, List.getElem_cons_zero, List.getElem_cons_succ]
              refine' wpAnyH_take (i := 14) (oi := _) (v := ?v14c) rfl (by kernel_rfl) (by kernel_rfl) (by kernel_rfl) (fun _ _ _ h => h) (Or.inl ⟨by rfl, ?hy14c⟩) hSS ?rest14c
              case hy14c => ((intro w' hSw; (try dsimp only at hSw)); go_simp <;> with_reducible rfl)
              set_option linter.unusedSimpArgs false in try simp only [Act.put, List.setIfInBounds_toArray, List.set_cons_zero, List.set_cons_succ, List.getElem_toArray, List.getElem_cons_zero, List.getElem_cons_succ]
              refine' wpAnyH_take (i := 15) (oi := _) (v := ?v15c) rfl (by kernel_rfl) (by kernel_rfl) (by kernel_rfl) (fun _ _ _ h => h) (Or.inl ⟨by rfl, ?hy15c⟩) hSS ?rest15c
              case hy15c => ((intro w' hSw; (try dsimp only at hSw)); go_simp <;> with_reducible rfl)
              set_option linter.unusedSimpArgs false in try simp only [Act.put, List.setIfInBounds_toArray, List.set_cons_zero, List.set_cons_succ, List.getElem_toArray, List.getElem_cons_zero, List.getElem_cons_succ]
              refine' wpAnyH_take (i := 16) (oi := _) (v := ?v16c) rfl (by kernel_rfl) (by kernel_rfl) (by kernel_rfl) (fun _ _ _ h => h) (Or.inl ⟨by rfl, ?hy16c⟩) hSS ?rest16c
              case hy16c => ((intro w' hSw; (try dsimp only at hSw)); go_simp <;> with_reducible rfl)
              set_option linter.unusedSimpArgs false in try simp only [Act.put, List.setIfInBounds_toArray, List.set_cons_zero, List.set_cons_succ, List.getElem_toArray, List.getElem_cons_zero, List.getElem_cons_succ]
              refine' wpAnyH_take (i := 17) (oi := _) (v := ?v17c) rfl (by kernel_rfl) (by kernel_rfl) (by kernel_rfl) (fun _ _ _ h => h) (Or.inl ⟨by rfl, ?hy17c⟩) hSS ?rest17c
              case hy17c => ((intro w' hSw; (try dsimp only at hSw)); go_simp <;> with_reducible rfl)
              set_option linter.unusedSimpArgs false in try simp only [Act.put, List.setIfInBounds_toArray, List.set_cons_zero, List.set_cons_succ, List.getElem_toArray, List.getElem_cons_zero, List.getElem_cons_succ]
              refine' wpAnyH_take (i := 18) (oi := _) (v := ?v18c) rfl (by kernel_rfl) (by kernel_rfl) (by kernel_rfl) (fun _ _ _ h => h) (Or.inl ⟨by rfl, ?hy18c⟩) hSS ?rest18c
              case hy18c => ((intro w' hSw; (try dsimp only at hSw)); go_simp <;> with_reducible rfl)
              set_option linter.unusedSimpArgs false in try simp only [Act.put, List.setIfInBounds_toArray, List.set_cons_zero, List.set_cons_succ, List.getElem_toArray, List.getElem_cons_zero, List.getElem_cons_succ]
              refine' wpAnyH_take (i := 19) (oi := _) (v := ?v19c) rfl (by kernel_rfl) (by kernel_rfl) (by kernel_rfl) (fun _ _ _ h => h) (Or.inl ⟨by rfl, ?hy19c⟩) hSS ?rest19c
              case hy19c => ((intro w' hSw; (try dsimp only at hSw)); go_simp <;> with_reducible rfl)
              set_option linter.unusedSimpArgs false in try simp only [Act.put, List.setIfInBounds_toArray, List.set_cons_zero, List.set_cons_succ, List.getElem_toArray, List.getElem_cons_zero, List.getElem_cons_succ]
              refine' wpAnyH_take (i := 21) (oi := _) (v := ?v21c) rfl (by kernel_rfl) (by kernel_rfl) (by kernel_rfl) (fun _ _ _ h => h) (Or.inl ⟨by rfl, ?hy21c⟩) hSS ?rest21c
              case hy21c => ((intro w' hSw; (try dsimp only at hSw)); go_simp <;> with_reducible rfl)
              set_option linter.unusedSimpArgs false in try simp only [Act.put, List.setIfInBounds_toArray, List.set_cons_zero, List.set_cons_succ, List.getElem_toArray, List.getElem_cons_zero, List.getElem_cons_succ]
              refine' wpAnyH_take (i := 22) (oi := _) (v := ?v22c) rfl (by kernel_rfl) (by kernel_rfl) (by kernel_rfl) (fun _ _ _ h => h) (Or.inl ⟨by rfl, ?hy22c⟩) hSS ?rest22c
              case hy22c => ((intro w' hSw; (try dsimp only at hSw)); go_simp <;> with_reducible rfl)
              set_option linter.unusedSimpArgs false in try simp only [Act.put, List.setIfInBounds_toArray, List.set_cons_zero, List.set_cons_succ, List.getElem_toArray, List.getElem_cons_zero, List.getElem_cons_succ]
              refine' wpAnyH_take (i := 23) (oi := _) (v := ?v23c) rfl (by kernel_rfl) (by kernel_rfl) (by kernel_rfl) (fun _ _ _ h => h) (Or.inl ⟨by rfl, ?hy23c⟩) hSS ?rest23c
              case hy23c => ((intro w' hSw; (try dsimp only at hSw)); go_simp <;> with_reducible rfl)
              set_option linter.unusedSimpArgs false in try simp only [Act.put, List.setIfInBounds_toArray, List.set_cons_zero, List.set_cons_succ, List.getElem_toArray, List.getElem_cons_zero, List.getElem_cons_succ]
              refine' wpAnyH_take (i := 24) (oi := _) (v := ?v24c) rfl (by kernel_rfl) (by kernel_rfl) (by kernel_rfl) (fun _ _ _ h => h) (Or.inl ⟨by rfl, ?hy24c⟩) hSS ?rest24c
              case hy24c => ((intro w' hSw; (try dsimp only at hSw)); go_simp <;> with_reducible rfl)
              set_option linter.unusedSimpArgs false in try simp only [Act.put, List.setIfInBounds_toArray, List.set_cons_zero, List.set_cons_succ, List.getElem_toArray, List.getElem_cons_zero, List.getElem_cons_succ]
              refine wpAnyH_ready (rs := [20]) (by kernel_rfl) (by simp) ?_
              refine AllReadyH.cons rfl (fun K hK => ?_) AllReadyH.nil
              go_simp
              go_at_call 37
              refine (textR Q 300 (textB s ++ r2) false _ (by exact HD1.out) (by omega) (by omega)).mono ?_
              intro e w6 h6
              obtain ⟨rfl, hR6, hm6⟩ := textR_some HT1.out h6
              have HB6 := Lib.hid (show Below wo.heap.size wo w6 from (HBQ.out.drew).trans (hm6.below HBQ.out.size (fun k hk h => by omega)))
              have d6 : w6.cell? (ad2.add j) = some (.string ⟨s.toArray⟩) := cellk (HBW.out.trans (HB6.out.mono HBW.out.size)) (by rw [block_of_add]; exact had2) dl2
              have b6 : w6.cell? ⟨Q, 1, none⟩ = some (.bool false) := (by obtain ⟨A5, c5', k1, _⟩ := hR6; rw [cell_of_blk k1]; rfl)
              have HR6 := Lib.hid hR6
              clear h6 hR6 hm6
              refine hK.out _ _ ⟨d6, b6⟩ (fun hSS => ?_)
              clear hK K
              set_option linter.unusedSimpArgs false in try simp only [Act.put, List.setIfInBounds_toArray, List.set_cons_zero, List.set_cons_succ, List.getElem_toArray, List.getElem_cons_zero, List.getElem_cons_succ]
              refine' wpAnyH_take (i := 25) (oi := _) (v := ?v25c) rfl (by kernel_rfl) (by kernel_rfl) (by kernel_rfl) (fun _ _ _ h => h) (Or.inl ⟨by rfl, ?hy25c⟩) hSS ?rest25c
              case hy25c => ((intro w' hSw; (try dsimp only at hSw)); go_simp <;> with_reducible rfl)
              set_option linter.unusedSimpArgs false in try simp only [Act.put, List.setIfInBounds_toArray, List.set_cons_zero, List.set_cons_succ, List.getElem_toArray, List.getElem_cons_zero, List.getElem_cons_succ]
              refine' wpAnyH_take (i := 26) (oi := _) (v := ?v26c) rfl (by kernel_rfl) (by kernel_rfl) (by kernel_rfl) (fun _ _ _ h => h) (Or.inl ⟨by rfl, ?hy26c⟩) hSS ?rest26c
              case hy26c => ((intro w' hSw; (try dsimp only at hSw)); go_simp <;> with_reducible rfl)
              set_option linter.unusedSimpArgs false in try simp only [Act.put, List.setIfInBounds_toArray, List.set_cons_zero, List.set_cons_succ, List.getElem_toArray, List.getElem_cons_zero, List.getElem_cons_succ]
              refine' wpAnyH_take (i := 27) (oi := _) (v := ?v27c) rfl (by kernel_rfl) (by kernel_rfl) (by kernel_rfl) (fun _ _ _ h => h) (Or.inl ⟨by rfl, ?hy27c⟩) hSS ?rest27c
              case hy27c => ((intro w' hSw; (try dsimp only at hSw)); go_simp <;> with_reducible rfl)
              set_option linter.unusedSimpArgs false in try simp only [Act.put, List.setIfInBounds_toArray, List.set_cons_zero, List.set_cons_succ, List.getElem_toArray, List.getElem_cons_zero, List.getElem_cons_succ]
              refine' wpAnyH_take (i := 28) (oi := _) (v := ?v28c) rfl (by kernel_rfl) (by kernel_rfl) (by kernel_rfl) (fun _ _ _ h => h) (Or.inl ⟨by rfl, ?hy28c⟩) hSS ?rest28c
              case hy28c => ((intro w' hSw; (try dsimp only at hSw)); go_simp <;> with_reducible rfl)
              set_option linter.unusedSimpArgs false in try simp only [Act.put, List.setIfInBounds_toArray, List.set_cons_zero, List.set_cons_succ, List.getElem_toArray, List.getElem_cons_zero, List.getElem_cons_succ]
              refine' wpAnyH_take (i := 29) (oi := _) (v := ?v29c) rfl (by kernel_rfl) (by kernel_rfl) (by kernel_rfl) (fun _ _ _ h => h) (Or.inl ⟨by rfl, ?hy29c⟩) hSS ?rest29c
              case hy29c => ((intro w' hSw; (try dsimp only at hSw)); go_simp <;> with_reducible rfl)
              set_option linter.unusedSimpArgs false in try simp only [Act.put, List.setIfInBounds_toArray, List.set_cons_zero, List.set_cons_succ, List.getElem_toArray, List.getElem_cons_zero, List.getElem_cons_succ]
              refine' wpAnyH_take (i := 30) (oi := _) (v := ?v30c) rfl (by kernel_rfl) (by kernel_rfl) (by kernel_rfl) (fun _ _ _ h => h) (Or.inl ⟨by rfl, ?hy30c⟩) hSS ?rest30c
              case hy30c => ((intro w' hSw; (try dsimp only at hSw)); go_simp <;> with_reducible rfl)
              set_option linter.unusedSimpArgs false in try simp only [Act.put, List.setIfInBounds_toArray, List.set_cons_zero, List.set_cons_succ, List.getElem_toArray, List.getElem_cons_zero, List.getElem_cons_succ]
              refine' wpAnyH_take (i := 31) (oi := _) (v := ?v31c) rfl (by kernel_rfl) (by kernel_rfl) (by kernel_rfl) (fun _ _ _ h => h) (Or.inl ⟨by rfl, ?hy31c⟩) hSS ?rest31c
              case hy31c => ((intro w' hSw; (try dsimp only at hSw)); go_simp <;> with_reducible rfl)
              set_option linter.unusedSimpArgs false in try simp only [Act.put, List.setIfInBounds_toArray, List.set_cons_zero, List.set_cons_succ, List.getElem_toArray, List.getElem_cons_zero, List.getElem_cons_succ]
              refine' wpAnyH_take (i := 32) (oi := _) (v := ?v32c) rfl (by kernel_rfl) (by kernel_rfl) (by kernel_rfl) (fun _ _ _ h => h) (Or.inl ⟨by rfl, ?hy32c⟩) hSS ?rest32c
              case hy32c => ((intro w' hSw; (try dsimp only at hSw)); go_simp <;> with_reducible rfl)
              set_option linter.unusedSimpArgs false in try simp only [Act.put, List.setIfInBounds_toArray, List.set_cons_zero, List.set_cons_succ, List.getElem_toArray, List.getElem_cons_zero, List.getElem_cons_succ]
              refine' wpAnyH_take (i := 33) (oi := _) (v := ?v33c) rfl (by kernel_rfl) (by kernel_rfl) (by kernel_rfl) (fun _ _ _ h => h) (Or.inl ⟨by rfl, ?hy33c⟩) hSS ?rest33c
              case hy33c => ((intro w' hSw; (try dsimp only at hSw)); go_simp <;> with_reducible rfl)
              set_option linter.unusedSimpArgs false in try simp only [Act.put, List.setIfInBounds_toArray, List.set_cons_zero, List.set_cons_succ, List.getElem_toArray, List.getElem_cons_zero, List.getElem_cons_succ]
              refine wpAnyH_done (by kernel_rfl) ?_ _
              refine NoPanic.normal ?_
              go_wp2_with (fail)
              refine ⟨⟨j + 1, by omega, by go_num, ?_, HB6, ?_⟩, by simp [intOf]; omega⟩
              · rw [← HR2E.out]; exact HR6
              · rw [← HR2E.out]; rw [List.length_append] at hr2l; omega
          · obtain rfl : j = k := by omega
            have hr0 := HRD.out
            rw [Nat.sub_self] at hr0
            have HR0 := Lib.hid (show RdAt wr Q [] false from hr0)
            have d1 : wr.cell? ⟨P, 0, none⟩ = some (.slice Aw LE cw) := cellk HBQ.out hPl d0
            clear hr0
            go_wp2_with (fail)
            refine (equalBq true Aw Av LE cw LE cv _ _ E E wr (H2.out.reads.below HBQ.out) (HWT.out.below HBQ.out) (by omega) (by omega) (decide_eq_true rfl)).mono ?_
            rintro e w5 ⟨rfl, q, rfl⟩
            go_wp2_with (fail)
            refine (endR Q [] false true (wr.drewN q) (HR0.out.drewN q) rfl).mono ?_
            rintro e w6 ⟨rfl, rfl⟩
            go_wp2_with (fail)
            go_ret
            exact ⟨rfl, bdrewN (HBW.out.trans (HBQ.out.mono HBW.out.size)) q⟩
  · go_enter Tryd.func10, Tryd.ntmps10
    go_wp2_with (fail)
    refine (awake5_any w hn).mono ?_
    rintro e w1 ⟨rfl, hb1⟩
    clear hn
    by_cases h1 : nl ≤ 30
    · have g1 : decide ((30 : Int) < (nl : Int)) = false := decide_eq_false (by omega)
      have g2 : decide ((30 : Int) < (ns : Int)) = true := decide_eq_true (by omega)
      clear hbig
      go_wp2_with (fail)
      go_ret
      exact ⟨rfl, hb1⟩
    · have g1 : decide ((30 : Int) < (nl : Int)) = true := decide_eq_true (by omega)
      clear hbig
      go_wp2_with (fail)
      go_ret
      exact ⟨rfl, hb1⟩
end Go.Proofs.YtgonklbjbgekoaaDoor
