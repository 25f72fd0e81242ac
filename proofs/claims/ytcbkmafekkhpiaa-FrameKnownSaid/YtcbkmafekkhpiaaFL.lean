/- frame: the contracts of a framer that is none. -/
import Derived.Test.YtcbkmafekkhpiaaFH
namespace Go.Proofs.Ytcbkmafekkhpiaa
open Go.RowKit
set_option linter.unusedVariables false

def IsN (w : World) (v : Value) : Prop := v = .pointer none ∨ ∃ b, v = .pointer (some ⟨b, 0, none⟩) ∧ b < w.heap.size ∧ w.cell? ⟨b, 0, none⟩ = some (.bool false)
theorem IsN.below {w w' : World} {v : Value} (h : IsN w v) (hb : Below w.heap.size w w') : IsN w' v := by
  rcases h with h | ⟨b, rfl, h1, h2⟩
  · exact .inl h
  · exact .inr ⟨b, rfl, by have := hb.size; omega, (hb.cell h1).trans h2⟩
theorem none_is (v : Value) (w : World) (h : IsN w v) : Calls Try.prog 21 #[v] w fun e w' => e = .returned (.bool true) ∧ w = w' := by
  rcases h with rfl | ⟨b, rfl, _, h0⟩
  all_goals
    go_enter Try.func21, Try.ntmps21
    go_wp2
    go_ret
    exact ⟨rfl, rfl⟩
theorem left_none (w : World) : Calls Try.prog 15 #[.pointer none] w fun e w' => e = .returned (.int .i64 0) ∧ w = w' := by
  go_enter Try.func15, Try.ntmps15
  go_wp2_with fail
  refine (none_is _ _ (.inl rfl)).mono ?_
  rintro e w' ⟨rfl, rfl⟩
  go_wp2
  go_ret
  exact ⟨rfl, rfl⟩
theorem copy_none (w : World) : Calls Try.prog 17 #[.pointer none] w fun e w' => e = .returned (.pointer none) ∧ w = w' := by
  go_enter Try.func17, Try.ntmps17
  go_wp2_with fail
  refine (none_is _ _ (.inl rfl)).mono ?_
  rintro e w' ⟨rfl, rfl⟩
  go_wp2
  go_ret
  exact ⟨rfl, rfl⟩
set_option maxHeartbeats 1000000 in
theorem put_none (v : Value) (s : ByteArray) (w : World) (h : IsN w v) : Calls Try.prog 12 #[v, .string s] w fun e w' => e = .returned (.tuple #[.slice none 0 0, .agg #[.int .i64 0, .int .u8 0, .int .u8 0]]) ∧ Below w.heap.size w w' := by
  have z := fun w => zeroV w
  have hal : Below w.heap.size w (w.alloc (.cells #[.int .i64 0, .int .u8 0, .int .u8 0] 34)) := (Below.refl _ _).alloc (Nat.le_refl _) _
  have H := Lib.hid (h.below hal)
  have hg0 := heap_alloc_new w (.cells #[.int .i64 0, .int .u8 0, .int .u8 0] 34)
  have HAL := Lib.hid hal
  clear hal h
  go_enter Try.func12, Try.ntmps12
  go_wp2_with fail
  generalize hW : w.alloc (.cells #[.int .i64 0, .int .u8 0, .int .u8 0] 34) = W at *
  have f0 := frozen_of_row _ _ 0 _ _ hg0
  have f1 := frozen_of_row _ _ 1 _ _ hg0
  have f2 := frozen_of_row _ _ 2 _ _ hg0
  have c0 := cell_of_row _ _ 0 _ _ _ hg0
  have c1 := cell_of_row _ _ 1 _ _ _ hg0
  have c2 := cell_of_row _ _ 2 _ _ _ hg0
  have HG0 := Lib.hid hg0
  simp at c0 c1 c2
  clear hg0 hW
  refine (none_is _ _ H.out).mono ?_
  rintro e w' ⟨rfl, rfl⟩
  go_wp2_with fail
  refine (none_is _ _ H.out).mono ?_
  rintro e w' ⟨rfl, rfl⟩
  go_wp2_with fail
  have hR := set3 (a' := .int .i64 0) (b' := .int .u8 0) (c' := .int .u8 0) HG0.out
  have hb := set3_below (a' := .int .i64 0) (b' := .int .u8 0) (c' := .int .u8 0) HAL.out (Nat.le_refl _)
  generalize (((W.setCell ⟨w.heap.size, 0, none⟩ (.int .i64 0)).setCell ⟨w.heap.size, 1, none⟩ (.int .u8 0)).setCell ⟨w.heap.size, 2, none⟩ (.int .u8 0)) = w9 at *
  have r0 := cell_of_row _ _ 0 _ _ _ hR
  have r1 := cell_of_row _ _ 1 _ _ _ hR
  have r2 := cell_of_row _ _ 2 _ _ _ hR
  simp at r0 r1 r2
  exact bodyPost_ret (v := .tuple #[.slice none 0 0, .agg #[.int .i64 0, .int .u8 0, .int .u8 0]]) (by simp [results, Try.results12, go_sem, r0, r1, r2]) rfl ⟨rfl, hb⟩
end Go.Proofs.Ytcbkmafekkhpiaa
