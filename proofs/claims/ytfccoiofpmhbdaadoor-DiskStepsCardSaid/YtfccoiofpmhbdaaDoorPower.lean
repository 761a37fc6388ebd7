/- Package power: New, Tick, Used, Run: their contracts. No condition. -/
import Derived.Test.YtfccoiofpmhbdaaDoorAwake2
import Derived.Defers
import Derived.Recover
import Derived.Deep.QuietTactic
import Derived.BigQuiet
namespace Go.Proofs.YtfccoiofpmhbdaaDoor
open Go Go.Proofs Go.RowKit

/-- What is thrown when the power goes. -/
def offV : Value := .iface 73 (.agg #[])
theorem new_any (n : Int) (w : World) : Calls Tryd.prog 9 #[.int .i64 n] w fun e w' => e = .returned (.pointer (some ⟨w.heap.size, 0, none⟩)) ∧ w' = w.alloc (.cells #[.int .i64 n, .int .i64 0] 68) := by
  go_enter Tryd.func9, Tryd.ntmps9
  go_wp2
  go_ret
  exact ⟨rfl, rfl⟩
theorem used_any (p : Nat) (u : Int) (w : World) (h : w.cell? ⟨p, 1, none⟩ = some (.int .i64 u)) : Calls Tryd.prog 11 #[.pointer (some ⟨p, 0, none⟩)] w fun e w' => e = .returned (.int .i64 u) ∧ w' = w := by
  go_enter Tryd.func11, Tryd.ntmps11
  go_wp2
  go_ret
  exact ⟨rfl, rfl⟩
theorem tick_off (p : Nat) (l u : Int) (w : World) (h0 : w.cell? ⟨p, 0, none⟩ = some (.int .i64 l)) (h1 : w.cell? ⟨p, 1, none⟩ = some (.int .i64 u)) (hl : 0 ≤ l) (hu : l ≤ u) :
    Calls Tryd.prog 37 #[.pointer (some ⟨p, 0, none⟩)] w fun e w' => e = .panicked [{ v := offV, recovered := false }] ∧ ∃ n, w' = w.drewN n := by
  have hd1 : decide (0 ≤ l) = true := decide_eq_true hl
  go_enter Tryd.func37, Tryd.ntmps37
  go_wp2_with (fail)
  go_quiet (fail)
  go_wp2_with (fail)
  exact ⟨rfl, rfl, _, rfl⟩
theorem tick_on (p : Nat) (l u : Int) (w : World) (h0 : w.cell? ⟨p, 0, none⟩ = some (.int .i64 l)) (h1 : w.cell? ⟨p, 1, none⟩ = some (.int .i64 u)) (hf : w.frozen? ⟨p, 1, none⟩ = false) (hu0 : 0 ≤ u) (hu1 : u < 9223372036854775807) (hl : l < 0 ∨ u < l) :
    Calls Tryd.prog 37 #[.pointer (some ⟨p, 0, none⟩)] w fun e w' => e = .returned (.tuple #[]) ∧ ∃ n, w' = (w.drewN n).setCell ⟨p, 1, none⟩ (.int .i64 (u + 1)) := by
  by_cases hl0 : 0 ≤ l
  · have hd1 : decide (0 ≤ l) = true := decide_eq_true hl0
    have hlu : ¬ l ≤ u := by omega
    have hd2 : decide (l ≤ u) = false := decide_eq_false hlu
    go_enter Tryd.func37, Tryd.ntmps37
    go_wp2_with (fail)
    go_quiet (fail)
    go_wp2_with (fail)
    go_end0
    exact ⟨rfl, _, rfl⟩
  · have hd1 : decide (0 ≤ l) = false := decide_eq_false hl0
    go_enter Tryd.func37, Tryd.ntmps37
    go_wp2_with (fail)
    go_quiet (fail)
    go_wp2_with (fail)
    go_end0
    exact ⟨rfl, _, rfl⟩
set_option maxRecDepth 100000 in
/-- The deferred closure of Run, where the frame below panics with 'off': it recovers, and lays false. -/
theorem catch_off (B : Nat) (x : Value) (older : List PanicEntry) (w : World) (hB : B < w.heap.size) (hc : w.cell? ⟨B, 0, none⟩ = some x) (hz : w.frozen? ⟨B, 0, none⟩ = false) :
    CallsD Tryd.prog 34 #[.pointer (some ⟨B, 0, none⟩)] (.panicking ({ v := offV, recovered := false } :: older)) w fun e u' w' =>
      e = .returned (.tuple #[]) ∧ u' = .panicking ({ v := offV, recovered := true } :: older) ∧ w' = (w.setCell ⟨B, 0, none⟩ (.bool false)).alloc (.cells #[] 73) := by
  refine callsD_of_wpS Tryd.func34 rfl fun c₀ cs hu => ?_
  have hneq : ∀ w : World, (binOp BinOp.neq 20 offV .nilIface).run Tryd.prog w = .ok (.bool true) w := fun _ => by kernel_rfl
  have hta : ∀ w : World, Sem.run Tryd.prog (Instr.typeAssert offV 20 73 true) w = .ok (.tuple #[.agg #[], .bool true]) w := fun _ => by kernel_rfl
  have heg : ∀ w : World, Sem.run Tryd.prog (eqGuard BinOp.neq 20 (Operand.tmp 5) (Operand.const Value.nilIface) offV Value.nilIface) w = .ok () w := fun _ => by kernel_rfl
  apply wpS_seq
  apply wpS_region
  simp [wpOpsS, go_sem, recoverD, hu, Tryd.ntmps34, Exit.thenS]
  rw [show (#[Value.pointer (some ⟨B, 0, none⟩)] ++ ((Array.replicate 14 undef).setIfInBounds 3 offV).setIfInBounds 0 offV) = #[.pointer (some ⟨B, 0, none⟩), offV, undef, undef, offV, undef, undef, undef, undef, undef, undef, undef, undef, undef, undef] from rfl]
  refine wpS_of_wp ?_
  go_wp2_with (fail)
  simp [bodyPostS, results, Tryd.results34]
set_option maxRecDepth 100000 in
/-- .. where the frame below returns: there is nothing to recover. -/
theorem catch_idle (B : Nat) (w : World) :
    CallsD Tryd.prog 34 #[.pointer (some ⟨B, 0, none⟩)] .returning w fun e u' w' => e = .returned (.tuple #[]) ∧ u' = .returning ∧ w' = w := by
  refine callsD_of_wpS Tryd.func34 rfl fun c₀ cs hu => ?_
  have hneq : ∀ w : World, (binOp BinOp.neq 20 .nilIface .nilIface).run Tryd.prog w = .ok (.bool false) w := fun _ => by kernel_rfl
  have heg : ∀ w : World, Sem.run Tryd.prog (eqGuard BinOp.neq 20 (Operand.tmp 5) (Operand.const Value.nilIface) Value.nilIface Value.nilIface) w = .ok () w := fun _ => by kernel_rfl
  apply wpS_seq
  apply wpS_region
  simp [wpOpsS, go_sem, recoverD, hu, Tryd.ntmps34, Exit.thenS]
  rw [show (#[Value.pointer (some ⟨B, 0, none⟩)] ++ ((Array.replicate 14 undef).setIfInBounds 3 Value.nilIface).setIfInBounds 0 Value.nilIface) = #[.pointer (some ⟨B, 0, none⟩), .nilIface, undef, undef, .nilIface, undef, undef, undef, undef, undef, undef, undef, undef, undef, undef] from rfl]
  refine wpS_of_wp ?_
  go_wp2_with (fail)
  cases c₀
  simp_all [bodyPostS, results, Tryd.results34]
/-- Run, where what is done comes back. -/
theorem run_on (G : Nat) (first cap : Array Value) (w : World) (R : World → Prop) (eg : ∀ args w, (callFunc G args).run Tryd.prog w = .ok (.enter G args) w)
    (hf : Calls Tryd.prog G (first ++ cap) (w.alloc (.cells #[.bool false] 4)) fun e w2 => e = .returned (.tuple #[]) ∧ w2.cell? ⟨w.heap.size, 0, none⟩ = some (.bool false) ∧ w2.frozen? ⟨w.heap.size, 0, none⟩ = false ∧ R w2) :
    Calls Tryd.prog 13 #[.func (.func G) first cap] w fun e w' => e = .returned (.bool true) ∧ ∃ w2, R w2 ∧ w' = w2.setCell ⟨w.heap.size, 0, none⟩ (.bool true) := by
  have hmf : ∀ (fn : Fn) (first cap : Array Value) (w : World), (Instr.makeFunc fn first cap).run Tryd.prog w = .ok (.func fn first cap) w := fun _ _ _ _ => rfl
  go_enter_defers Tryd.func13, Tryd.ntmps13
  go_wp2_with (fail)
  refine hf.mono ?_
  rintro e w2 ⟨rfl, hc, hz, hR⟩
  go_wp2_with (fail)
  refine leaves_cons (f := 34) (args := #[.pointer (some ⟨w.heap.size, 0, none⟩)]) (by simp) (by simp [go_sem]) ?_
  refine (catch_idle w.heap.size _).mono ?_
  rintro e u' w'' ⟨rfl, rfl, rfl⟩
  have hc' : (w2.setCell ⟨w.heap.size, 0, none⟩ (.bool true)).cell? ⟨w.heap.size, 0, none⟩ = some (.bool true) := by go_simp
  simp [Leaves, settle, results, Tryd.results13, go_sem, hc']
  exact ⟨w2, hR, rfl⟩
/-- Run, where the power goes in what is done. -/
theorem run_off (G : Nat) (first cap : Array Value) (w : World) (R : World → Prop) (eg : ∀ args w, (callFunc G args).run Tryd.prog w = .ok (.enter G args) w)
    (hf : Calls Tryd.prog G (first ++ cap) (w.alloc (.cells #[.bool false] 4)) fun e w2 => e = .panicked [{ v := offV, recovered := false }] ∧ w2.cell? ⟨w.heap.size, 0, none⟩ = some (.bool false) ∧ w2.frozen? ⟨w.heap.size, 0, none⟩ = false ∧ R w2) :
    Calls Tryd.prog 13 #[.func (.func G) first cap] w fun e w' => e = .returned (.bool false) ∧ ∃ w2, R w2 ∧ w' = (w2.setCell ⟨w.heap.size, 0, none⟩ (.bool false)).alloc (.cells #[] 73) := by
  have hmf : ∀ (fn : Fn) (first cap : Array Value) (w : World), (Instr.makeFunc fn first cap).run Tryd.prog w = .ok (.func fn first cap) w := fun _ _ _ _ => rfl
  go_enter_defers Tryd.func13, Tryd.ntmps13
  go_wp2_with (fail)
  refine hf.mono ?_
  rintro e w2 ⟨rfl, hc, hz, hR⟩
  go_wp2_with (fail)
  refine leaves_cons (f := 34) (args := #[.pointer (some ⟨w.heap.size, 0, none⟩)]) (by simp) (by simp [go_sem]) ?_
  have hlt := World.block_lt_of_cell? _ _ hc
  refine (catch_off w.heap.size _ [] w2 hlt hc hz).mono ?_
  rintro e u' w'' ⟨rfl, rfl, rfl⟩
  have hc' : ((w2.setCell ⟨w.heap.size, 0, none⟩ (.bool false)).alloc (.cells #[] 73)).cell? ⟨w.heap.size, 0, none⟩ = some (.bool false) := calloc (by go_simp) _
  simp [Leaves, settle, results, Tryd.results13, go_sem, hc']
  exact ⟨w2, hR, rfl⟩
end Go.Proofs.YtfccoiofpmhbdaaDoor
