/- prim.Check. -/
import Derived.Test.YtcljkcgccahlcaaTL
import Derived.Lib.QuietBelow
import Derived.BigQuiet
namespace Go.Proofs.Ytcljkcgccahlcaa
open Go.RowKit Go.Sort
set_option linter.unusedVariables false

/-- May such a place be? -/
def chkP (p : Pl) : Bool := decide (sizeP p.fam ≠ 0 ∧ p.addr.size = sizeP p.fam ∧ 0 ≤ p.len ∧ p.len ≤ 8 * (sizeP p.fam : Int)) && ((p.rd == 0 || apartP p.fam) && ((maskS p.addr p.len).toList == p.addr.toList))

theorem calls_regrown {f : FuncId} {args : Array Value} {W : World} {v : Value} (h : ∀ w, Calls Try.prog f args w fun e w' => e = .returned v ∧ Below w.heap.size w w') (d : Nat) (os : Array Obj) :
    Calls Try.prog f args (grow (redrawn W d) os) fun e w'' => e = .returned v ∧ ∃ p : Regrown, w'' = grow (redrawn W p.d) p.os := Calls.regrown_of (h _)
theorem calls_regrown_same {f : FuncId} {args : Array Value} {W : World} {v : Value} (h : ∀ w, Calls Try.prog f args w fun e w' => e = .returned v ∧ w = w') (d : Nat) (os : Array Obj) :
    Calls Try.prog f args (grow (redrawn W d) os) fun e w'' => e = .returned v ∧ ∃ p : Regrown, w'' = grow (redrawn W p.d) p.os := Calls.regrown_of ((h _).mono fun e w' ⟨h1, h2⟩ => ⟨h1, h2 ▸ Below.refl _ _⟩)

theorem pre_cells (p : Pl) (w : World) (d : Nat) (os : Array Obj) : (grow (redrawn (w.alloc (.cells #[.int .i64 p.fam, .int .u64 p.rd, .string p.addr, .int .i64 p.len] 38)) d) os).cell? ⟨w.heap.size, 0, none⟩ = some (.int .i64 p.fam)
   ∧ (grow (redrawn (w.alloc (.cells #[.int .i64 p.fam, .int .u64 p.rd, .string p.addr, .int .i64 p.len] 38)) d) os).cell? ⟨w.heap.size, 1, none⟩ = some (.int .u64 p.rd)
   ∧ (grow (redrawn (w.alloc (.cells #[.int .i64 p.fam, .int .u64 p.rd, .string p.addr, .int .i64 p.len] 38)) d) os).cell? ⟨w.heap.size, 2, none⟩ = some (.string p.addr)
   ∧ (grow (redrawn (w.alloc (.cells #[.int .i64 p.fam, .int .u64 p.rd, .string p.addr, .int .i64 p.len] 38)) d) os).cell? ⟨w.heap.size, 3, none⟩ = some (.int .i64 p.len) := by
  refine ⟨cell_regrown (by simp) d os, cell_regrown (by simp) d os, cell_regrown (by simp) d os, cell_regrown (by simp) d os⟩

theorem ne_zero (p : Pl) (h : p.fam ≠ 0) (w : World) : (binOp .eql 38 (.agg #[.int .i64 p.fam, .int .u64 p.rd, .string p.addr, .int .i64 p.len]) (.agg #[.int .i64 0, .int .u64 0, .string ⟨#[]⟩, .int .i64 0])).run Try.prog w = .ok (.bool false) w := by
  rw [run_eql_pre p ⟨0, 0, ⟨#[]⟩, 0, 0⟩ w]
  have : eqPre p ⟨0, 0, ⟨#[]⟩, 0, 0⟩ = false := by
    cases he : eqPre p ⟨0, 0, ⟨#[]⟩, 0, 0⟩ with
    | false => rfl
    | true => exact absurd ((eqPre_iff _ _).1 he).1 h
  rw [this]

theorem pre_facts (p : Pl) (w : World) : (∀ d os, (grow (redrawn (w.alloc (.cells #[.int .i64 p.fam, .int .u64 p.rd, .string p.addr, .int .i64 p.len] 38)) d) os).cell? ⟨w.heap.size, 0, none⟩ = some (.int .i64 p.fam))
   ∧ (∀ d os, (grow (redrawn (w.alloc (.cells #[.int .i64 p.fam, .int .u64 p.rd, .string p.addr, .int .i64 p.len] 38)) d) os).cell? ⟨w.heap.size, 1, none⟩ = some (.int .u64 p.rd))
   ∧ (∀ d os, (grow (redrawn (w.alloc (.cells #[.int .i64 p.fam, .int .u64 p.rd, .string p.addr, .int .i64 p.len] 38)) d) os).cell? ⟨w.heap.size, 2, none⟩ = some (.string p.addr))
   ∧ (∀ d os, (grow (redrawn (w.alloc (.cells #[.int .i64 p.fam, .int .u64 p.rd, .string p.addr, .int .i64 p.len] 38)) d) os).cell? ⟨w.heap.size, 3, none⟩ = some (.int .i64 p.len)) :=
  ⟨fun d os => (pre_cells p w d os).1, fun d os => (pre_cells p w d os).2.1, fun d os => (pre_cells p w d os).2.2.1, fun d os => (pre_cells p w d os).2.2.2⟩
theorem regrown_end (w : World) (o : Obj) (d : Nat) (os : Array Obj) : Below w.heap.size w (grow (redrawn (w.alloc o) d) os) :=
  ((Below.refl _ _).alloc (Nat.le_refl _) _).trans ((below_regrown _ _ _).mono (by simp))
end Go.Proofs.Ytcljkcgccahlcaa
