/- slices.SortFunc at nothing; the places of a family. -/
import Derived.Test.YtcljkcgccahlcaaTE
namespace Go.Proofs.Ytcljkcgccahlcaa
open Go.RowKit Go.Sort Go.Lib Go.Shelf
set_option linter.unusedVariables false

set_option maxHeartbeats 2000000 in
theorem ins_none (fv : Value) (w : World) : Calls Try.prog 75 #[.slice none 0 0, .int .i64 0, .int .i64 0, fv] w fun e w' => e = .returned (.tuple #[]) ∧ w = w' := by
  go_enter Try.func75, Try.ntmps75
  go_wp2
  refine wp_loop_rounds 1 ?_
  rw [rounds_succ]
  go_wp2
  go_end0
  exact ⟨rfl, rfl⟩

set_option maxHeartbeats 2000000 in
theorem pdq_none (lim : Int) (fv : Value) (w : World) : Calls Try.prog 71 #[.slice none 0 0, .int .i64 0, .int .i64 0, .int .i64 lim, fv] w fun e w' => e = .returned (.tuple #[]) ∧ w = w' := by
  go_enter Try.func71, Try.ntmps71
  go_wp2
  refine wp_loop_rounds 1 ?_
  rw [rounds_succ]
  go_wp2_with (go_at_call 75; refine (ins_none _ _).mono ?_; rintro e w' ⟨rfl, rfl⟩)
  (try simp only [Exit.inBlock, Exit.then])
  refine bodyPost_ret (results_none rfl _ _ _) rfl ?_
  exact ⟨rfl, rfl⟩

set_option maxHeartbeats 2000000 in
theorem sort_none (fv : Value) (w : World) : Calls Try.prog 60 #[.slice none 0 0, fv] w fun e w' => e = .returned (.tuple #[]) ∧ w = w' := by
  have hl : ∀ W, Calls Try.prog 72 #[.int .u64 0] W fun e w' => e = .returned (.int .i64 (Lib.bitLen 0 : Nat)) ∧ w' = W := fun W =>
    Any.bits_Len (SlLaysF0.n15.bits (P := Try.prog) (ρ := sortL_ren) { sortL with }) 0 W (by omega) (by omega)
  go_enter Try.func60, Try.ntmps60
  go_wp2_with (first | (go_at_call 72; refine (hl _).mono ?_; rintro e w' ⟨rfl, rfl⟩) | (go_at_call 71; refine (pdq_none _ _ _).mono ?_; rintro e w' ⟨rfl, rfl⟩))
  go_end0
  exact ⟨rfl, rfl⟩
end Go.Proofs.Ytcljkcgccahlcaa
