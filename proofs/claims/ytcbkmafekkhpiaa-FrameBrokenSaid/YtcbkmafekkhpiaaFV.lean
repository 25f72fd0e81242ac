/- heraldref09: Same, of two lists that are alike. -/
import Derived.Test.YtcbkmafekkhpiaaFE
namespace Go.Proofs.Ytcbkmafekkhpiaa
open Go.RowKit
set_option linter.unusedVariables false

set_option maxHeartbeats 1000000 in
theorem same_eq (u v : Value) (A : List Fr) (w : World) (h1 : FRd w u A) (h2 : FRd w v A) : Calls Try.prog 14 #[u, v] w fun e w' => e = .returned (.bool true) ∧ Still w w' := by
  obtain ⟨ao, cap, g, off, rfl, hm, hao, hcell⟩ := h1
  obtain ⟨ao', cap', g', off', rfl, hm', hao', hcell'⟩ := h2
  have HA := Lib.hid hao
  have HC := Lib.hid hcell
  have HA' := Lib.hid hao'
  have HC' := Lib.hid hcell'
  clear hao hcell hao' hcell'
  go_enter Try.func14, Try.ntmps14
  go_wp2_with fail
  go_loopw [5] (fun i wr => ∃ k : Nat, i = .int .i64 k ∧ k ≤ A.length ∧ Still w wr) (fun i _ => A.length - (intOf i).toNat)
  case atStart => exact ⟨0, rfl, Nat.zero_le _, Still.refl _⟩
  case round =>
    obtain ⟨k, rfl, hk, hst⟩ := hrel
    have HST := Lib.hid hst
    clear hst
    by_cases hlt : k < A.length
    · obtain ⟨rfl, hg⟩ := HA.out (by omega)
      obtain ⟨rfl, hg'⟩ := HA'.out (by omega)
      have e1 : wr.heap = w.heap := HST.out.heap
      have hcc : ∀ p, wr.cell? p = w.cell? p := fun p => by unfold World.cell?; rw [e1]
      have a0 := (hcc _).trans (HC.out k hlt).1
      have a1 := (hcc _).trans (HC.out k hlt).2
      have b0 := (hcc _).trans (HC'.out k hlt).1
      have b1 := (hcc _).trans (HC'.out k hlt).2
      clear e1 hcc
      generalize (A.getD k (0, [])).1 = x at *
      generalize mkS (A.getD k (0, [])).2 = y at *
      have i3 : (0 : Int) ≤ (k : Int) := by omega
      have i4 : (k : Int) < (A.length : Int) := by omega
      go_wp2_with fail
      go_quiet (fail)
      have hst3 : Still w (wr.drewN nq) := ⟨HST.out.heap, HST.out.os, HST.out.tape, HST.out.output⟩
      have HST3 := Lib.hid hst3
      clear hst3
      go_wp2
      go_roundw
      case rel => exact ⟨k + 1, by go_num, by omega, HST3.out⟩
      case measure => simp [intOf]; omega
    · obtain rfl : k = A.length := by omega
      clear hlt hk
      go_wp2
      go_ret
      exact ⟨rfl, HST.out⟩
end Go.Proofs.Ytcbkmafekkhpiaa
