/- Draws that are none; the walk of DrawKnown. -/
import Derived.Test.YtohlppmalinooaaI
namespace Go.Proofs.Ytohlppmalinooaa
open Go.RowKit
set_option linter.unusedVariables false

/-- Draws that are none: a nil pointer, or one to a block that no call of the package made. -/
def Nope (w : World) (v : Value) : Prop := v = .pointer none ∨ ∃ b, v = .pointer (some ⟨b, 0, none⟩) ∧ w.cell? ⟨b, 0, none⟩ = some (.bool false)

set_option maxHeartbeats 400000 in
theorem none_yes (v : Value) (w : World) (h : Nope w v) : Calls Try.prog 17 #[v] w fun e w' => e = .returned (.bool true) ∧ w = w' := by
  rcases h with rfl | ⟨b, rfl, hb⟩
  · go_enter Try.func17, Try.ntmps17
    go_wp2
    go_ret
    exact ⟨rfl, rfl⟩
  · go_enter Try.func17, Try.ntmps17
    go_wp2
    go_ret
    exact ⟨rfl, rfl⟩

set_option maxHeartbeats 400000 in
theorem push_nope (v : Value) (x : Int) (w : World) (h : Nope w v) : Calls Try.prog 12 #[v, .int .u32 x] w fun e w' => e = .returned (.int .i64 1) ∧ w = w' := by
  go_enter Try.func12, Try.ntmps12
  go_wp2_with fail
  refine (none_yes v _ h).mono ?_
  rintro e w' ⟨rfl, rfl⟩
  go_wp2_with fail
  go_ret
  exact ⟨rfl, rfl⟩

set_option maxHeartbeats 400000 in
theorem left_nope (v : Value) (w : World) (h : Nope w v) : Calls Try.prog 16 #[v] w fun e w' => e = .returned (.int .i64 0) ∧ w = w' := by
  go_enter Try.func16, Try.ntmps16
  go_wp2_with fail
  refine (none_yes v _ h).mono ?_
  rintro e w' ⟨rfl, rfl⟩
  go_wp2_with fail
  go_ret
  exact ⟨rfl, rfl⟩

set_option maxHeartbeats 400000 in
theorem copy_nope (v : Value) (w : World) (h : Nope w v) : Calls Try.prog 15 #[v] w fun e w' => e = .returned (.pointer none) ∧ w = w' := by
  go_enter Try.func15, Try.ntmps15
  go_wp2_with fail
  refine (none_yes v _ h).mono ?_
  rintro e w' ⟨rfl, rfl⟩
  go_wp2_with fail
  go_ret
  exact ⟨rfl, rfl⟩

set_option maxHeartbeats 400000 in
theorem next_nope (v : Value) (w : World) (h : Nope w v) : Calls Try.prog 19 #[v] w fun e w' => e = .returned (.tuple #[.int .u32 0, .bool false]) ∧ w = w' := by
  go_enter Try.func19, Try.ntmps19
  go_wp2_with fail
  refine (none_yes v _ h).mono ?_
  rintro e w' ⟨rfl, rfl⟩
  go_wp2_with fail
  go_ret2
  exact ⟨rfl, rfl⟩

set_option maxHeartbeats 400000 in
theorem by_nope (v : Value) (base : Int) (w : World) (h : Nope w v) : Calls Try.prog 18 #[.int .i64 base, .func (Fn.func 19) #[v] #[]] w fun e w' => e = .returned (.int .i64 base) ∧ w = w' := by
  go_enter Try.func18, Try.ntmps18
  go_wp2_with fail
  refine (next_nope v _ h).mono ?_
  rintro e w' ⟨rfl, rfl⟩
  go_wp2_with fail
  go_ret
  exact ⟨rfl, rfl⟩

set_option maxHeartbeats 400000 in
theorem jit_nope (v : Value) (base : Int) (hb : 0 < base) (w : World) (h : Nope w v) : Calls Try.prog 14 #[v, .int .i64 base] w fun e w' => e = .returned (.int .i64 base) ∧ w = w' := by
  go_enter Try.func14, Try.ntmps14
  go_wp2_with fail
  refine (by_nope v base _ h).mono ?_
  rintro e w' ⟨rfl, rfl⟩
  go_wp2_with fail
  go_ret
  exact ⟨rfl, rfl⟩

set_option maxHeartbeats 400000 in
theorem jit_nope_neg (v : Value) (base : Int) (hb : base ≤ 0) (w : World) : Calls Try.prog 14 #[v, .int .i64 base] w fun e w' => e = .returned (.int .i64 0) ∧ w = w' := by
  go_enter Try.func14, Try.ntmps14
  go_wp2_with fail
  go_ret
  exact ⟨rfl, rfl⟩

theorem of_eq (b n v : Int) (h : ofV b n = v) (w : World) (hb2 : b < 9223372036854775808) (hn : 0 ≤ n) (hn2 : n < 4294967296) :
    Calls Try.prog 8 #[.int .i64 b, .int .u32 n] w fun e w' => e = .returned (.int .i64 v) ∧ w = w' := h ▸ of_any b n w hb2 hn hn2

set_option maxHeartbeats 4000000 in
set_option maxRecDepth 100000 in
theorem known_walk (w : World) : Calls Try.prog 7 #[] w fun e w' => e = .returned (.bool true) ∧ Below w.heap.size w w' := by
  go_enter Try.func7, Try.ntmps7
  go_wp2_with fail
  refine (new_any _).mono ?_
  rintro e w1 ⟨rfl, hw1⟩
  have hd1 : IsD w1 w.heap.size (heads (fun i => (i : Int)) 0) := hw1 ▸ isD_new w
  have hbel1 : Below w.heap.size w w1 := hw1 ▸ (Below.refl _ _).alloc (Nat.le_refl _) _
  clear hw1
  go_wp2_with fail
  go_loopw [2] (fun i wr => ∃ k : Nat, i = .int .i64 k ∧ k ≤ 64 ∧ Below w.heap.size w wr ∧ IsD wr w.heap.size (heads (fun i => (i : Int)) k)) (fun i _ => 64 - (intOf i).toNat)
  case atStart => exact ⟨0, rfl, Nat.zero_le _, hbel1, hd1⟩
  case round =>
    obtain ⟨k, rfl, hk, hbel, hd⟩ := hrel
    clear hbel1 hd1
    by_cases hlt : k < 64
    · go_wp2_with fail
      refine (push_eq _ _ _ (k : Int) (by omega) (by omega) _ hd (by rw [heads_len]; omega) (heads_succ (fun i => (i : Int)) k)).mono ?_
      rintro e w2 ⟨rfl, hd2, ho2⟩
      have hbel2 := hbel.trans (ho2.below (Nat.le_refl _))
      clear hd hbel ho2
      go_wp2_with fail
      go_roundw
      case rel => exact ⟨k + 1, by go_num, by omega, hbel2, hd2⟩
      case measure => simp [intOf]; omega
    · obtain rfl : k = 64 := by omega
      clear hlt hk
      go_wp2_with fail
      refine (push_any_full _ _ _ _ hd (by rw [heads_len]; omega)).mono ?_
      rintro e w' ⟨rfl, rfl⟩
      have z := fun w => zero42 w
      go_wp2_with fail
      refine (works_any _).mono ?_
      rintro e w2 ⟨rfl, hb2⟩
      have hsz := hbel.size
      have hsz2 := hb2.size
      have hd2 : IsD w2 w.heap.size (heads (fun i => (i : Int)) 64) := (hd.alloc (.cells (draw0 false) 42)).keep (hb2.block _ (by have := hd.lt; simp; omega))
      have hbel2 : Below w.heap.size w w2 := (hbel.alloc hbel.size (.cells (draw0 false) 42)).trans (hb2.mono (by simp; omega))
      have hn2 : w2.cell? ⟨wr.heap.size, 0, none⟩ = some (.bool false) := (hb2.cell (by simp)).trans (by simp [draw0])
      have hneq : wr.heap.size ≠ w.heap.size := by have := hd.lt; omega
      obtain ⟨be, hbe⟩ : ∃ be, wr.heap.size = be := ⟨_, rfl⟩
      rw [hbe] at hn2 hneq ⊢
      clear hbel hd hb2 z hsz hsz2 hbe
      have HNE := Lib.hid hneq
      clear hneq
      go_wp2_with fail
      refine (left_eq _ _ 64 _ hd2 rfl).mono ?_
      rintro e w' ⟨rfl, rfl⟩
      go_wp2_with fail
      refine (jit_eq _ 100 (by omega) _ _ 75 _ hd2 (by decide +kernel) rfl).mono ?_
      rintro e w3 ⟨rfl, hd3, ho3⟩
      have hbel3 := hbel2.trans (ho3.below (Nat.le_refl _))
      have hn3 := (ho3.cell (o := 0) HNE.out).trans hn2
      clear hd2 hbel2 hn2 ho3
      go_wp2_with fail
      refine (push_any _ _ 1 (by omega) (by omega) _ hd3 (by decide +kernel)).mono ?_
      rintro e w4 ⟨rfl, hd4, ho4⟩
      have hbel4 := hbel3.trans (ho4.below (Nat.le_refl _))
      have hn4 := (ho4.cell (o := 0) HNE.out).trans hn3
      clear hd3 hbel3 hn3 ho4 hd4
      have hN : Nope w4 (.pointer none) := .inl rfl
      have hE : Nope w4 (.pointer (some ⟨be, 0, none⟩)) := .inr ⟨be, rfl, hn4⟩
      clear hn4
      go_wp2_with fail
      refine (of_eq (100) 26 (75) (by decide +kernel) _ (by omega) (by omega) (by omega)).mono ?_
      rintro e w' ⟨rfl, rfl⟩
      go_wp2_with fail
      refine (of_eq (90) 10 (76) (by decide +kernel) _ (by omega) (by omega) (by omega)).mono ?_
      rintro e w' ⟨rfl, rfl⟩
      go_wp2_with fail
      refine (of_eq (1) 0 (1) (by decide +kernel) _ (by omega) (by omega) (by omega)).mono ?_
      rintro e w' ⟨rfl, rfl⟩
      go_wp2_with fail
      refine (of_eq (0) 5 (0) (by decide +kernel) _ (by omega) (by omega) (by omega)).mono ?_
      rintro e w' ⟨rfl, rfl⟩
      go_wp2_with fail
      refine (of_eq (-7) 5 (0) (by decide +kernel) _ (by omega) (by omega) (by omega)).mono ?_
      rintro e w' ⟨rfl, rfl⟩
      go_wp2_with fail
      refine (of_eq (9223372036854775807) 25 (9223372036854775807) (by decide +kernel) _ (by omega) (by omega) (by omega)).mono ?_
      rintro e w' ⟨rfl, rfl⟩
      go_wp2_with fail
      refine (push_nope _ 1 _ hN).mono ?_
      rintro e w' ⟨rfl, rfl⟩
      go_wp2_with fail
      refine (push_nope _ 1 _ hE).mono ?_
      rintro e w' ⟨rfl, rfl⟩
      go_wp2_with fail
      refine (jit_nope _ 9 (by omega) _ hN).mono ?_
      rintro e w' ⟨rfl, rfl⟩
      go_wp2_with fail
      refine (jit_nope_neg _ (-9) (by omega) _).mono ?_
      rintro e w' ⟨rfl, rfl⟩
      go_wp2_with fail
      refine (jit_nope _ 9 (by omega) _ hE).mono ?_
      rintro e w' ⟨rfl, rfl⟩
      go_wp2_with fail
      refine (left_nope _ _ hN).mono ?_
      rintro e w' ⟨rfl, rfl⟩
      go_wp2_with fail
      refine (left_nope _ _ hE).mono ?_
      rintro e w' ⟨rfl, rfl⟩
      go_wp2_with fail
      refine (copy_nope _ _ hN).mono ?_
      rintro e w' ⟨rfl, rfl⟩
      go_wp2_with fail
      refine (copy_nope _ _ hE).mono ?_
      rintro e w' ⟨rfl, rfl⟩
      go_wp2_with fail
      go_ret
      exact ⟨rfl, hbel4⟩
end Go.Proofs.Ytohlppmalinooaa
