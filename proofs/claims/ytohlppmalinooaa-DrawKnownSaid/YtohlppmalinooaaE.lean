/- The walks of DrawOf and DrawBetween: for all numbers they answer true, and nothing that was there has turned. -/
import Derived.Test.YtohlppmalinooaaD
namespace Go.Proofs.Ytohlppmalinooaa
open Go.RowKit
set_option linter.unusedVariables false

set_option maxHeartbeats 400000 in
theorem drawOf_walk (b n : Int) (w : World) (hb : -9223372036854775808 ≤ b) (hb2 : b < 9223372036854775808) (hn : 0 ≤ n) (hn2 : n < 4294967296) :
    Calls Try.prog 3 #[.int .i64 b, .int .u32 n] w fun e w' => e = .returned (.bool true) ∧ Below w.heap.size w w' := by
  have he : (ofV b n == ofV b n) = true := by simp
  go_enter Try.func3, Try.ntmps3
  go_wp2_with fail
  refine (of_any b n _ hb2 hn hn2).mono ?_
  rintro e w' ⟨rfl, rfl⟩
  go_wp2_with fail
  refine (ref_any b n _ hb2 hn hn2).mono ?_
  rintro e w' ⟨rfl, rfl⟩
  generalize ofV b n = v at *
  go_wp2_with fail
  refine (works_any _).mono ?_
  rintro e w' ⟨rfl, hb⟩
  go_wp2_with fail
  go_ret
  exact ⟨rfl, hb⟩

set_option maxHeartbeats 400000 in
theorem drawBetween_walk (b n : Int) (w : World) (hb : -9223372036854775808 ≤ b) (hb2 : b < 9223372036854775808) (hn : 0 ≤ n) (hn2 : n < 4294967296) :
    Calls Try.prog 4 #[.int .i64 b, .int .u32 n] w fun e w' => e = .returned (.bool true) ∧ Below w.heap.size w w' := by
  by_cases h0 : b ≤ 0
  · go_enter Try.func4, Try.ntmps4
    go_wp2_with fail
    refine (works_any _).mono ?_
    rintro e w1 ⟨rfl, hb⟩
    go_wp2_with fail
    refine (of_any b n _ hb2 hn hn2).mono ?_
    rw [ofV_neg h0]
    rintro e w' ⟨rfl, rfl⟩
    go_wp2_with fail
    go_ret
    exact ⟨rfl, hb⟩
  · have hp : 0 < b := by omega
    obtain ⟨q1, q2, q3, q4⟩ := ofV_bd b n hp hn
    have q5 : (ofV b n == ofV b n) = true := by simp
    have Q4 := Lib.hid q4
    clear q4
    go_enter Try.func4, Try.ntmps4
    go_wp2_with fail
    refine (works_any _).mono ?_
    rintro e w1 ⟨rfl, hb⟩
    go_wp2_with fail
    refine (of_any b n _ hb2 hn hn2).mono ?_
    rintro e w' ⟨rfl, rfl⟩
    generalize hv : ofV b n = v at *
    have HV := Lib.hid hv
    clear hv
    go_wp2_with fail
    refine (of_any b (n % 26) _ hb2 (by omega) (by omega)).mono ?_
    rintro e w' ⟨rfl, rfl⟩
    rw [Q4.out]
    go_wp2_with fail
    go_ret
    exact ⟨rfl, hb⟩
end Go.Proofs.Ytohlppmalinooaa
