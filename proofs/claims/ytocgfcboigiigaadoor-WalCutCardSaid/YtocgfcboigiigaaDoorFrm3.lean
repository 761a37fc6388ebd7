/- Pieces told from bytes: frame.Split. Condition: not too many bytes. -/
import Derived.Test.YtocgfcboigiigaaDoorFrm2
import Derived.Test.YtocgfcboigiigaaDoorScope
import Derived.WalkMore
namespace Go.Proofs.YtocgfcboigiigaaDoor
open Go Go.Proofs Go.RowKit

/-- The first piece, and what is behind it. -/
def split1 (bs : List UInt8) : Option (List UInt8 × List UInt8) :=
  if 8 ≤ bs.length ∧ num4 bs ≤ bs.length - 8 ∧ sumB ((bs.drop 8).take (num4 bs)) = num4 (bs.drop 4) then some ((bs.drop 8).take (num4 bs), bs.drop (8 + num4 bs)) else none
theorem split1_len {bs p r : List UInt8} (h : split1 bs = some (p, r)) : bs.length = 8 + p.length + r.length ∧ r = bs.drop (8 + p.length) := by
  unfold split1 at h
  split at h
  · rename_i hc
    simp only [Option.some.injEq, Prod.mk.injEq] at h
    obtain ⟨rfl, rfl⟩ := h
    have hp : ((bs.drop 8).take (num4 bs)).length = num4 bs := by rw [List.length_take, List.length_drop]; omega
    rw [hp, List.length_drop]
    exact ⟨by omega, rfl⟩
  · cases h
/-- The pieces that are good, from the first one on, and how many bytes they have, together. -/
def splitF (bs : List UInt8) : List (List UInt8) × Nat :=
  match h : split1 bs with
  | some (p, r) => (p :: (splitF r).1, 8 + p.length + (splitF r).2)
  | none => ([], 0)
termination_by bs.length
decreasing_by
  all_goals
    have := (split1_len h).1
    omega
theorem splitF_none {bs : List UInt8} (h : split1 bs = none) : splitF bs = ([], 0) := by
  rw [splitF]
  split
  · rename_i h2; rw [h] at h2; cases h2
  · rfl
theorem splitF_some {bs p r : List UInt8} (h : split1 bs = some (p, r)) : splitF bs = (p :: (splitF r).1, 8 + p.length + (splitF r).2) := by
  rw [splitF]
  split
  · rename_i p' r' h2
    rw [h] at h2
    simp only [Option.some.injEq, Prod.mk.injEq] at h2
    obtain ⟨rfl, rfl⟩ := h2
    rfl
  · rename_i h2; rw [h] at h2; cases h2
def slV (x : Option Addr × Nat × Nat × List UInt8) : Value := .slice x.1 x.2.1 x.2.2.1
/-- Slices of bytes in new memory, in a slice of new memory. -/
def Pieces (w : World) (base : Nat) (v : Value) (ps : List (List UInt8)) : Prop :=
  ∃ L : BL, ps = L.map (·.2.2.2) ∧ w.ownsRow base 22 1 v ps.length (L.map slV) ∧ ∀ x ∈ L, w.ownsRow base 5 1 (slV x) x.2.1 (bv x.2.2.2)
theorem info_sl : (Tryd.prog.info? 22).map (fun i => (i.zero, i.size, i.bytes)) = some (some (.slice none 0 0), 1, 24) := by kernel_rfl
theorem owns_bel {w w' : World} {base e size n : Nat} {v : Value} {xs : List Value} (h : w.ownsRow base e size v n xs) (hb : Below w.heap.size w w') : w'.ownsRow base e size v n xs := by
  refine ⟨h.1, ?_⟩
  rcases h.2 with h2 | ⟨g, cap, cur, h2, h3, h4, h5⟩
  · exact .inl h2
  · exact .inr ⟨g, cap, cur, h2, h3, (hb.block _ (lt_of_heap h4)).trans h4, h5⟩
theorem Pieces.below {w w' : World} {base : Nat} {v : Value} {ps : List (List UInt8)} (h : Pieces w base v ps) (hb : Below w.heap.size w w') : Pieces w' base v ps := by
  obtain ⟨L, h1, h2, h3⟩ := h
  exact ⟨L, h1, owns_bel h2 hb, fun x hx => owns_bel (h3 x hx) hb⟩
theorem Pieces.nil (w : World) (base : Nat) : Pieces w base (.slice none 0 0) [] := ⟨[], rfl, World.ownsRow_nil _ _ _ _, fun x hx => by cases hx⟩
theorem Pieces.form {w : World} {base : Nat} {v : Value} {ps : List (List UInt8)} (h : Pieces w base v ps) : ∃ A c, v = .slice A ps.length c ∧ ps.length ≤ c := by
  obtain ⟨L, h1, h2, h3⟩ := h
  exact owns_form h2
/-- What holds where Split begins anew: g bytes are done, qs are their pieces. -/
def SplitI (base : Nat) (w : World) (bs : List UInt8) (g : Nat) (v : Value) (qs : List (List UInt8)) (wr : World) : Prop :=
  splitF bs = (qs ++ (splitF (bs.drop g)).1, g + (splitF (bs.drop g)).2) ∧ Pieces wr base v qs ∧ Below base w wr ∧ qs.length ≤ g
def splitJ (A : Option Addr) (n c : Nat) (bs : List UInt8) (w : World) (l : Nat) (a : Act) (w' : World) : Prop :=
  ∃ (g : Nat) (v : Value) (qs : List (List UInt8)) (u : Nat → Value), a = ⟨#[.slice A n c, u 1, v, .int .i64 (g : Int), u 4, u 5, u 6, u 7, u 8, u 9, u 10, u 11, u 12, u 13, u 14, u 15, u 16, u 17, u 18, u 19, u 20, u 21, u 22, u 23, u 24, u 25, u 26, u 27, u 28, u 29, u 30, u 31, u 32, u 33, u 34, u 35, u 36, u 37, u 38, u 39, u 40, u 41, u 42, u 43, u 44, u 45, u 46, u 47, u 48, u 49, u 50, u 51, u 52, u 53, u 54], []⟩ ∧ l = 0 ∧ g ≤ n ∧ SplitI w.heap.size w bs g v qs w'
theorem splitJ_mk {A : Option Addr} {n c : Nat} {bs : List UInt8} {w : World} {a : Act} {w' : World} (g : Nat) (v : Value) (qs : List (List UInt8)) (ha : a = ⟨#[.slice A n c, a.tmps.getD 1 Go.undef, v, .int .i64 (g : Int), a.tmps.getD 4 Go.undef, a.tmps.getD 5 Go.undef, a.tmps.getD 6 Go.undef, a.tmps.getD 7 Go.undef, a.tmps.getD 8 Go.undef, a.tmps.getD 9 Go.undef, a.tmps.getD 10 Go.undef, a.tmps.getD 11 Go.undef, a.tmps.getD 12 Go.undef, a.tmps.getD 13 Go.undef, a.tmps.getD 14 Go.undef, a.tmps.getD 15 Go.undef, a.tmps.getD 16 Go.undef, a.tmps.getD 17 Go.undef, a.tmps.getD 18 Go.undef, a.tmps.getD 19 Go.undef, a.tmps.getD 20 Go.undef, a.tmps.getD 21 Go.undef, a.tmps.getD 22 Go.undef, a.tmps.getD 23 Go.undef, a.tmps.getD 24 Go.undef, a.tmps.getD 25 Go.undef, a.tmps.getD 26 Go.undef, a.tmps.getD 27 Go.undef, a.tmps.getD 28 Go.undef, a.tmps.getD 29 Go.undef, a.tmps.getD 30 Go.undef, a.tmps.getD 31 Go.undef, a.tmps.getD 32 Go.undef, a.tmps.getD 33 Go.undef, a.tmps.getD 34 Go.undef, a.tmps.getD 35 Go.undef, a.tmps.getD 36 Go.undef, a.tmps.getD 37 Go.undef, a.tmps.getD 38 Go.undef, a.tmps.getD 39 Go.undef, a.tmps.getD 40 Go.undef, a.tmps.getD 41 Go.undef, a.tmps.getD 42 Go.undef, a.tmps.getD 43 Go.undef, a.tmps.getD 44 Go.undef, a.tmps.getD 45 Go.undef, a.tmps.getD 46 Go.undef, a.tmps.getD 47 Go.undef, a.tmps.getD 48 Go.undef, a.tmps.getD 49 Go.undef, a.tmps.getD 50 Go.undef, a.tmps.getD 51 Go.undef, a.tmps.getD 52 Go.undef, a.tmps.getD 53 Go.undef, a.tmps.getD 54 Go.undef], []⟩) (hg : g ≤ n) (h : SplitI w.heap.size w bs g v qs w') : splitJ A n c bs w 0 a w' :=
  ⟨g, v, qs, fun i => a.tmps.getD i Go.undef, ha, rfl, hg, h⟩
def splitM (n : Nat) (a : Act) : Nat := n - (intOf (a.tmps.getD 3 Go.undef)).toNat
def RetSplit (w : World) (bs : List UInt8) (e : Ending) (w' : World) : Prop := ∃ v, e = .returned (.tuple #[v, .int .i64 (splitF bs).2]) ∧ Pieces w' w.heap.size v (splitF bs).1 ∧ Below w.heap.size w w'
theorem SplitI.drewN {base : Nat} {w : World} {bs : List UInt8} {g : Nat} {v : Value} {qs : List (List UInt8)} {wr : World} (h : SplitI base w bs g v qs wr) (q : Nat) : SplitI base w bs g v qs (wr.drewN q) := ⟨h.1, h.2.1, bdrewN h.2.2.1 q, h.2.2.2⟩
theorem retSplit {w w' : World} {bs : List UInt8} {g : Nat} {v : Value} {qs : List (List UInt8)} {e : Ending} (h : SplitI w.heap.size w bs g v qs w') (hn : split1 (bs.drop g) = none) (he : e = .returned (.tuple #[v, .int .i64 (g : Int)])) : RetSplit w bs e w' := by
  obtain ⟨h1, h2, h3, _⟩ := h
  rw [splitF_none hn, List.append_nil] at h1
  refine ⟨v, ?_, ?_, h3⟩
  · rw [h1, he]; rfl
  · rw [h1]; exact h2
theorem numQ (A : Option Addr) (n c B : Nat) (bs : List UInt8) (w : World) (q : Nat) (hr : Reads w B 1 A n (bv bs)) (hn : 4 ≤ n) :
    Calls Tryd.prog 48 #[.slice A n c] (w.drewN q) fun e w' => e = .returned (.int .u32 (num4 bs)) ∧ ∃ q', w' = (w.drewN q).drewN q' := numC A n c B bs (w.drewN q) hr hn
theorem Reads.pre {w : World} {B n k : Nat} {A : Option Addr} {bs : List UInt8} (h : Reads w B 1 A n (bv bs)) (hk : k ≤ n) : Reads w B 1 A k (bv (bs.take k)) := by
  have hl : bs.length = n := by have := h.1; rw [bv_length] at this; omega
  refine ⟨by rw [bv_length, List.length_take]; omega, fun hp => ?_⟩
  obtain ⟨ad, rfl, hbl, hc⟩ := h.2 (by omega)
  refine ⟨ad, rfl, hbl, fun j u hu => hc j u ?_⟩
  rw [bv_take, List.getElem?_take] at hu
  split at hu
  · exact hu
  · cases hu
theorem own_ne {w : World} {b1 b2 e1 e2 s1 s2 n1 n2 : Nat} {v1 v2 : Value} {x1 x2 : List Value} (h1 : w.ownsRow b1 e1 s1 v1 n1 x1) (h2 : w.ownsRow b2 e2 s2 v2 n2 x2) (he : e1 ≠ e2) : v1.ownBlock = none ∨ v1.ownBlock ≠ v2.ownBlock := by
  rcases h1.2 with ⟨rfl, _⟩ | ⟨g, cap, cur, rfl, _, hg, _⟩
  · exact .inl rfl
  · refine .inr fun h => ?_
    rcases h2.2 with ⟨rfl, _⟩ | ⟨g', cap', cur', rfl, _, hg', _⟩
    · cases h
    · simp only [Value.ownBlock, Option.some.injEq] at h
      subst h
      rw [hg] at hg'
      injection hg' with hg'
      injection hg' with _ hg'
      exact he hg'
theorem pieces_snoc {w1 w2 : World} {base : Nat} {v v2 : Value} {ps : List (List UInt8)} {p : List UInt8} {A : Option Addr} {n c : Nat} {L : BL} (hL : ps = L.map (·.2.2.2)) (h3 : ∀ x ∈ L, w1.ownsRow base 5 1 (slV x) x.2.1 (bv x.2.2.2)) (hv : w1.ownsRow base 22 1 v ps.length (L.map slV))
    (hp : w1.ownsRow base 5 1 (.slice A n c) n (bv p)) (hgr : w1.grownBy w2 v.ownBlock) (hown : w2.ownsRow base 22 1 v2 (ps.length + 1) (L.map slV ++ [.slice A n c])) : Pieces w2 base v2 (ps ++ [p]) := by
  refine ⟨L ++ [(A, n, c, p)], by rw [List.map_append, hL]; rfl, ?_, fun x hx => ?_⟩
  · rw [List.length_append, List.map_append]
    exact hown
  · rcases List.mem_append.1 hx with hx | hx
    · exact (h3 x hx).kept hgr (own_ne (h3 x hx) hv (by decide))
    · obtain rfl := List.mem_singleton.1 hx
      exact hp.kept hgr (own_ne hp hv (by decide))
theorem splitI_next {base : Nat} {w : World} {bs p : List UInt8} {g m : Nat} {v v2 : Value} {qs : List (List UInt8)} {wr w2 : World} (h : SplitI base w bs g v qs wr) (hs : split1 (bs.drop g) = some (p, (bs.drop g).drop (8 + m))) (hm : p.length = m) (hp : Pieces w2 base v2 (qs ++ [p])) (hb : Below base w w2) : SplitI base w bs (g + (8 + m)) v2 (qs ++ [p]) w2 := by
  obtain ⟨h1, _, _, h4⟩ := h
  rw [splitF_some hs, List.drop_drop] at h1
  refine ⟨?_, hp, hb, by rw [List.length_append]; simp; omega⟩
  rw [h1, hm, List.append_assoc]
  simp only [List.singleton_append, Prod.mk.injEq, true_and]
  omega
noncomputable def splitY : Code := ((Tryd.f17.body.bind (scopeRest 0)).getD .skip)
set_option maxHeartbeats 4000000 in
set_option maxRecDepth 100000 in
theorem splitCore (Q : Exit → Act → World → Prop) (A : Option Addr) (n c B : Nat) (bs : List UInt8) (w : World) (hr : Reads w B 1 A n (bv bs)) (hB : B ≤ w.heap.size) (hn : n ≤ 100000000) (hc : n ≤ c) (hQ : ∀ a w', bodyPost Tryd.prog Tryd.f17 (RetSplit w bs) .ret a w' → Q .ret a w') (g : Nat) (v : Value) (qs : List (List UInt8)) (u : Nat → Value) (wr : World) (hg : g ≤ n) (hI : SplitI w.heap.size w bs g v qs wr) :
    Code.wp Tryd.prog splitY (jumps (fun l a w' => splitJ A n c bs w l a w' ∧ splitM n a < n - g) Q) ⟨#[.slice A n c, u 1, v, .int .i64 (g : Int), u 4, u 5, u 6, u 7, u 8, u 9, u 10, u 11, u 12, u 13, u 14, u 15, u 16, u 17, u 18, u 19, u 20, u 21, u 22, u 23, u 24, u 25, u 26, u 27, u 28, u 29, u 30, u 31, u 32, u 33, u 34, u 35, u 36, u 37, u 38, u 39, u 40, u 41, u 42, u 43, u 44, u 45, u 46, u 47, u 48, u 49, u 50, u 51, u 52, u 53, u 54], []⟩ wr := by
  conv => arg 2; whnf
  have hl : bs.length = n := by have := hr.1; rw [bv_length] at this; omega
  obtain ⟨Av, cv, rfl, hcv⟩ := hI.2.1.form
  have hb := hI.2.2.1
  have hrw : Reads wr B 1 A n (bv bs) := hr.below (hb.mono hB)
  have HQ := Lib.hid hQ
  have HI := Lib.hid hI
  have HR := Lib.hid hrw
  have HL := Lib.hid hl
  have hgc : g ≤ c := by omega
  have q0 : (0 : Int) ≤ (g : Int) := by omega
  have q1 : (g : Int) ≤ (n : Int) := by omega
  have q2 : (g : Int) ≤ (c : Int) := by omega
  obtain ⟨r, hr'⟩ : ∃ r, n = g + r := ⟨n - g, by omega⟩
  subst hr'
  clear hQ hI hrw hl hb hr
  by_cases h8 : 8 ≤ r
  · have h2n := num4_lt (bs.drop g)
    obtain ⟨N, hN⟩ : ∃ N, N = num4 (bs.drop g) := ⟨_, rfl⟩
    obtain ⟨S, hS⟩ : ∃ S, S = num4 ((bs.drop g).drop 4) := ⟨_, rfl⟩
    have hSl : S < 2 ^ 32 := by rw [hS]; exact num4_lt _
    rw [← hN] at h2n
    obtain ⟨ad, rfl, _, _⟩ := HR.out.2 (by omega)
    have hcg : ¬ c = g := by omega
    have hrd := HR.out.cut (k := g) (cap := g + r + 1) (by omega) (by omega)
    rw [if_neg (by omega), Nat.mul_one, show g + r - g = r by omega, show (bv bs).drop g = bv (bs.drop g) by simp [bv, List.map_drop]] at hrd
    have hrd4 := hrd.cut (k := 4) (cap := r + 1) (by omega) (by omega)
    rw [if_neg (by omega), Nat.mul_one, show (bv (bs.drop g)).drop 4 = bv ((bs.drop g).drop 4) by simp [bv, List.map_drop]] at hrd4
    have hrd8 := hrd.cut (k := 8) (cap := r + 1) (by omega) (by omega)
    rw [if_neg (by omega), Nat.mul_one, show (bv (bs.drop g)).drop 8 = bv ((bs.drop g).drop 8) by simp [bv, List.map_drop]] at hrd8
    simp only [Option.map_some] at hrd hrd4 hrd8
    have e4 : (ad.add g).add 4 = ⟨(ad.add g).block, (ad.add g).off + 4, none⟩ := rfl
    have e8 : (ad.add g).add 8 = ⟨(ad.add g).block, (ad.add g).off + 8, none⟩ := rfl
    rw [e4] at hrd4
    rw [e8] at hrd8
    clear e4 e8
    have HR0 := Lib.hid hrd
    have HR4 := Lib.hid hrd4
    have HR8 := Lib.hid hrd8
    have q3 : decide ((r : Int) < 8) = false := decide_eq_false (by omega)
    have q4 : ¬ r < 8 := by omega
    have q5 : (4 : Int) ≤ (r : Int) := by omega
    have q7 : (4 : Int) ≤ ((c - g : Nat) : Int) := by omega
    have q8 : 4 ≤ c - g := by omega
    have q9 : ¬ c - g = 4 := by omega
    have HN := Lib.hid hN
    have HS := Lib.hid hS
    clear hrd hrd4 hrd8 hN hS
    by_cases hNr : N ≤ r - 8
    · have q6 : decide ((r : Int) - 8 < (N : Int)) = false := decide_eq_false (by omega)
      have p1 : (8 : Int) + (N : Int) ≤ ((c - g : Nat) : Int) := by omega
      have p2 : 8 + N ≤ c - g := by omega
      have p3 : (0 : Int) ≤ (N : Int) := by omega
      have p4 : (8 : Int) ≤ (8 : Int) + (N : Int) := by omega
      obtain ⟨p, hp⟩ : ∃ p, p = ((bs.drop g).drop 8).take N := ⟨_, rfl⟩
      have hpl : p.length = N := by rw [hp, List.length_take, List.length_drop, List.length_drop, HL.out]; omega
      have hrp : ∀ A', (A' = some ⟨(ad.add g).block, (ad.add g).off + 8, none⟩ ∨ N = 0) → Reads wr B 1 A' N (bv p) := fun A' h => by
        rcases h with rfl | h
        · rw [hp]
          exact HR8.out.pre (k := N) (by omega)
        · have : p = [] := List.length_eq_zero_iff.1 (by omega)
          rw [this, h]
          exact Reads.none_
      have HP := Lib.hid hp
      have HPL := Lib.hid hpl
      have HRP := Lib.hid hrp
      clear hp hpl hrp
      rcases Nat.eq_zero_or_pos N with rfl | hN0
      · go_wp2_with (fail)
        go_quiet ((go_at_call 48; exact Calls.quiet_of (numQ _ _ _ B _ wr _ (by first | exact HR0.out | exact HR4.out) (by omega))))
        rw [← HN.out, ← HS.out]
        go_wp2_with (fail)
        refine (sumC (some (ad.add g)) 0 0 B p (wr.drewN nq) (HRP.out _ (by simp)) (by omega)).mono ?_
        rintro e w2 ⟨rfl, rfl⟩
        have hsp := sumB_lt p
        by_cases hss : sumB p = S
        · have HSS := Lib.hid hss
          rw [hss]
          have k1 : ((S : Int) != (S : Int)) = false := by simp
          clear hss hsp
          obtain ⟨L, hL1, hL2, hL3⟩ := HI.out.2.1
          have hbz := HI.out.2.2.1.size
          have hql := HI.out.2.2.2
          obtain ⟨i0, hi, hz0, hz1, hz2⟩ := info_parts info_u8
          obtain ⟨i1, hj, hy0, hy1, hy2⟩ := info_parts info_sl
          have HL1 := Lib.hid hL1
          have HL2 := Lib.hid hL2
          have HL3 := Lib.hid hL3
          have hBr : B ≤ wr.heap.size := by omega
          clear hL1 hL2 hL3
          have hbx : Below wr.heap.size wr ((wr.drewN nq).alloc (.cells #[] 5 (0, 0))) := (bdrewN (Below.refl _ _) nq).alloc (Nat.le_refl _) _
          have hp0 : p = [] := List.length_eq_zero_iff.1 HPL.out
          have hxp : ((wr.drewN nq).alloc (.cells #[] 5 (0, 0))).ownsRow w.heap.size 5 1 (.slice (some ⟨wr.heap.size, 0, none⟩) 0 0) 0 (bv p) := by
            rw [hp0]
            exact owns_new (o := #[]) (n := 0) (heap_alloc_new (wr.drewN nq) _) (Nat.zero_le _) rfl hbz
          have HXP := Lib.hid hxp
          have HX2 := Lib.hid (owns_bel HL2.out hbx)
          have HX3 := Lib.hid (fun x hx => owns_bel (HL3.out x hx) hbx)
          have HBX := Lib.hid (HI.out.2.2.1.trans (hbx.mono hbz))
          clear hbx hp0 hxp
          go_wp2_with (at_builtin; (refine wpList_append_any _ rfl (.tmp 44) (.tmp 48) 26 rfl w.heap.size 22 i1 (.slice none 0 0) 1 24 Tryd.underlying26 hj hy0 hy1 hy2 rfl (by decide) (.slice Av qs.length cv) qs.length (L.map slV) rfl (HX2.out.alloc _) _ (some ⟨wr.heap.size + 1, 0, none⟩) 1 1 [.slice (some ⟨wr.heap.size, 0, none⟩) 0 0] rfl (reads_blk (heap_new_at (by simp)) rfl) (fun u hu => by obtain rfl := List.mem_singleton.1 hu; rfl) (by unfold maxLen; omega) (by omega) (by simp; omega) ?_; intro v6 w6 hown6 hgr6 _; obtain ⟨A6, c6, rfl, hc6⟩ := owns_form hown6; have HG6 := Lib.hid hgr6; have HO6 := Lib.hid hown6; clear hgr6 hown6))
          refine wp_goto ?_
          have hX2 := HX2.out.alloc (.cells #[.slice (some ⟨wr.heap.size, 0, none⟩) 0 0] 22 (0, 0))
          have hX3 := fun x hx => (HX3.out x hx).alloc (.cells #[.slice (some ⟨wr.heap.size, 0, none⟩) 0 0] 22 (0, 0))
          have hXP := HXP.out.alloc (.cells #[.slice (some ⟨wr.heap.size, 0, none⟩) 0 0] 22 (0, 0))
          have hXB := (HBX.out.alloc (by first | omega | (simp; omega)) (.cells #[.slice (some ⟨wr.heap.size, 0, none⟩) 0 0] 22 (0, 0))).grown HG6.out (by simp; omega) (fun j hj => (HX2.out.lt j hj).1)
          refine ⟨splitJ_mk (g + (8 + 0)) (.slice A6 (qs.length + 1) c6) (qs ++ [p]) (by rfl) (by omega) (splitI_next (HI.out.drewN nq) ?_ HPL.out (pieces_snoc HL1.out hX3 hX2 hXP HG6.out HO6.out) hXB), ?_⟩
          · unfold split1
            rw [if_pos, ← HN.out]
            · rw [← HP.out]
            · rw [← HN.out, List.length_drop, HL.out, ← HP.out, HSS.out]
              exact ⟨by omega, by omega, HS.out⟩
          · show g + r - (intOf (.int .i64 ((g : Int) + 8))).toNat < g + r - g
            simp only [intOf]
            omega
        · have k1 : ((sumB p : Int) != (S : Int)) = true := by simp; omega
          have HSS := Lib.hid hss
          clear hss
          go_wp2_with (fail)
          refine HQ.out _ _ ?_
          go_ret2
          refine retSplit (HI.out.drewN nq) ?_ rfl
          unfold split1
          rw [if_neg]
          rintro ⟨_, _, h⟩
          rw [← HN.out, ← HP.out, ← HS.out] at h
          exact HSS.out h
      · have hN1 : ¬ N = 0 := by omega
        go_wp2_with (fail)
        go_quiet ((go_at_call 48; exact Calls.quiet_of (numQ _ _ _ B _ wr _ (by first | exact HR0.out | exact HR4.out) (by omega))))
        rw [← HN.out, ← HS.out]
        go_wp2_with (fail)
        refine (sumC (some ⟨(ad.add g).block, (ad.add g).off + 8, none⟩) N N B p (wr.drewN nq) (HRP.out _ (.inl rfl)) (by omega)).mono ?_
        rintro e w2 ⟨rfl, rfl⟩
        have hsp := sumB_lt p
        by_cases hss : sumB p = S
        · have HSS := Lib.hid hss
          rw [hss]
          have k1 : ((S : Int) != (S : Int)) = false := by simp
          clear hss hsp
          obtain ⟨L, hL1, hL2, hL3⟩ := HI.out.2.1
          have hbz := HI.out.2.2.1.size
          have hql := HI.out.2.2.2
          obtain ⟨i0, hi, hz0, hz1, hz2⟩ := info_parts info_u8
          obtain ⟨i1, hj, hy0, hy1, hy2⟩ := info_parts info_sl
          have HL1 := Lib.hid hL1
          have HL2 := Lib.hid hL2
          have HL3 := Lib.hid hL3
          have hBr : B ≤ wr.heap.size := by omega
          clear hL1 hL2 hL3
          go_wp2_with (first | (at_builtin; (refine wpList_append_any _ rfl (.tmp 45) (.tmp 46) 22 rfl w.heap.size 5 i0 (.int .u8 0) 1 1 Tryd.underlying22 hi hz0 hz1 hz2 rfl (by decide) (.slice (some ⟨wr.heap.size, 0, none⟩) 0 0) 0 [] rfl (owns_new (o := #[]) (n := 0) (heap_alloc_new (wr.drewN nq) (.cells #[] 5 (0, 0))) (Nat.zero_le _) rfl hbz) B (some ⟨(ad.add g).block, (ad.add g).off + 8, none⟩) N N (bv p) rfl ((show Reads (wr.drewN nq) B 1 _ N (bv p) from HRP.out _ (.inl rfl)).alloc hBr _) (bv_one p) (by unfold maxLen; omega) (by omega) (by simp; omega) ?_; intro v5 w5 hown5 hgr5 _; simp only [Nat.zero_add, List.nil_append] at hown5; obtain ⟨A5, c5, rfl, hc5⟩ := owns_form hown5; have hbx : Below wr.heap.size wr w5 := ((bdrewN (Below.refl _ _) nq).alloc (Nat.le_refl _) _).grown hgr5 (by simp) (fun j hj => (by (have e : wr.heap.size = j := by simpa [Value.ownBlock] using hj); exact Nat.le_of_eq e)); have hz5 := hbx.size; have HXP := Lib.hid hown5; have HX2 := Lib.hid (owns_bel HL2.out hbx); have HX3 := Lib.hid (fun x hx => owns_bel (HL3.out x hx) hbx); have HBX := Lib.hid (HI.out.2.2.1.trans (hbx.mono hbz)); clear hbx hown5 hgr5)) | (at_builtin; (refine wpList_append_any _ rfl (.tmp 44) (.tmp 48) 26 rfl w.heap.size 22 i1 (.slice none 0 0) 1 24 Tryd.underlying26 hj hy0 hy1 hy2 rfl (by decide) (.slice Av qs.length cv) qs.length (L.map slV) rfl (HX2.out.alloc _) _ (some ⟨w5.heap.size, 0, none⟩) 1 1 [.slice A5 N c5] rfl (reads_blk (heap_alloc_new _ _) rfl) (fun u hu => by obtain rfl := List.mem_singleton.1 hu; rfl) (by unfold maxLen; omega) (by omega) (by simp; omega) ?_; intro v6 w6 hown6 hgr6 _; obtain ⟨A6, c6, rfl, hc6⟩ := owns_form hown6; have HG6 := Lib.hid hgr6; have HO6 := Lib.hid hown6; clear hgr6 hown6)))
          refine wp_goto ?_
          have hX2 := HX2.out.alloc (.cells #[.slice A5 N c5] 22 (0, 0))
          have hX3 := fun x hx => (HX3.out x hx).alloc (.cells #[.slice A5 N c5] 22 (0, 0))
          have hXP := HXP.out.alloc (.cells #[.slice A5 N c5] 22 (0, 0))
          have hXB := (HBX.out.alloc (by first | omega | (simp; omega)) (.cells #[.slice A5 N c5] 22 (0, 0))).grown HG6.out (by simp; omega) (fun j hj => (HX2.out.lt j hj).1)
          refine ⟨splitJ_mk (g + (8 + N)) (.slice A6 (qs.length + 1) c6) (qs ++ [p]) (by rfl) (by omega) (splitI_next (HI.out.drewN nq) ?_ HPL.out (pieces_snoc HL1.out hX3 hX2 hXP HG6.out HO6.out) hXB), ?_⟩
          · unfold split1
            rw [if_pos, ← HN.out]
            · rw [← HP.out]
            · rw [← HN.out, List.length_drop, HL.out, ← HP.out, HSS.out]
              exact ⟨by omega, by omega, HS.out⟩
          · show g + r - (intOf (.int .i64 ((g : Int) + (8 + (N : Int))))).toNat < g + r - g
            simp only [intOf]
            omega
        · have k1 : ((sumB p : Int) != (S : Int)) = true := by simp; omega
          have HSS := Lib.hid hss
          clear hss
          go_wp2_with (fail)
          refine HQ.out _ _ ?_
          go_ret2
          refine retSplit (HI.out.drewN nq) ?_ rfl
          unfold split1
          rw [if_neg]
          rintro ⟨_, _, h⟩
          rw [← HN.out, ← HP.out, ← HS.out] at h
          exact HSS.out h
    · have q6 : decide ((r : Int) - 8 < (N : Int)) = true := decide_eq_true (by omega)
      go_wp2_with (fail)
      go_quiet ((go_at_call 48; exact Calls.quiet_of (numQ _ _ _ B _ wr _ (by first | exact HR0.out | exact HR4.out) (by omega))))
      rw [← HN.out, ← HS.out]
      go_wp2_with (fail)
      refine HQ.out _ _ ?_
      go_ret2
      refine retSplit (HI.out.drewN nq) ?_ rfl
      unfold split1
      rw [if_neg]
      rintro ⟨_, h, _⟩
      rw [← HN.out, List.length_drop, HL.out] at h
      omega
  · have hno : split1 (bs.drop g) = none := by
      unfold split1
      rw [if_neg]
      rintro ⟨h, _⟩
      rw [List.length_drop, HL.out] at h
      omega
    have HN := Lib.hid hno
    have q3 : decide ((r : Int) < 8) = true := decide_eq_true (by omega)
    have q4 : r < 8 := by omega
    clear hno
    go_wp2_with (fail)
    all_goals
      refine HQ.out _ _ ?_
      go_ret2
      exact retSplit HI.out HN.out rfl
set_option maxHeartbeats 2000000 in
set_option maxRecDepth 100000 in
theorem splitC (A : Option Addr) (n c B : Nat) (bs : List UInt8) (w : World) (hr : Reads w B 1 A n (bv bs)) (hB : B ≤ w.heap.size) (hn : n ≤ 100000000) (hc : n ≤ c) :
    Calls Tryd.prog 17 #[.slice A n c] w (RetSplit w bs) := by
  have HRD := Lib.hid hr
  clear hr
  go_enter Tryd.func17, Tryd.ntmps17
  go_wp2_with (fail)
  refine wp_scope_labels (splitJ A n c bs w) (fun _ a _ => splitM n a) ?_ ?_
  · refine wp_seq_k fun K hK => ?_
    refine wp_label ?_
    refine hK _ _ ?_
    exact wp_mono (splitCore (bodyPost Tryd.prog Tryd.f17 (RetSplit w bs)) A n c B bs w HRD.out hB hn hc (fun _ _ h => h) 0 (.slice none 0 0) [] (fun i => Go.undef) w (by omega) ⟨by simp, Pieces.nil _ _, Below.refl _ _, Nat.le_refl _⟩) (fun e a' w' h => by
      cases e with
      | goto l' => exact h.1
      | normal => exact h
      | exit id => exact h
      | ret => exact h
      | panic ch => exact h
      | outgrown => exact h)
  · intro l a w' hJ
    obtain ⟨g, v, qs, u, rfl, rfl, hg, hI⟩ := hJ
    refine ⟨_, rfl, ?_⟩
    refine wp_seq_k fun K hK => ?_
    refine wp_skip ?_
    refine hK _ _ ?_
    exact wp_mono (splitCore (bodyPost Tryd.prog Tryd.f17 (RetSplit w bs)) A n c B bs w HRD.out hB hn hc (fun _ _ h => h) g v qs u w' hg hI) (fun e a' w'' h => by
      cases e with
      | goto l' => exact h
      | normal => exact h
      | exit id => exact h
      | ret => exact h
      | panic ch => exact h
      | outgrown => exact h)
end Go.Proofs.YtocgfcboigiigaaDoor
