/- Contracts of draw.Of and heraldref14.Of. -/
import Derived.Test.YtohlppmalinooaaRows
import Derived.WalkKit
import Derived.WalkSpells
import Derived.WalkLawsBesides
import Derived.Lib.Hide
namespace Go.Proofs.Ytohlppmalinooaa
open Go.RowKit
set_option linter.unusedVariables false

/-- What a draw makes of a number of ticks. -/
def ofV (b n : Int) : Int := if b ≤ 0 then 0 else max 1 (b / 100 * (75 + n % 26) + b % 100 * (75 + n % 26) / 100)

theorem ofV_neg {b n : Int} (h : b ≤ 0) : ofV b n = 0 := by simp [ofV, h]
theorem ofV_one {b n : Int} (h : 0 < b) (g : b / 100 * (75 + n % 26) + b % 100 * (75 + n % 26) / 100 ≤ 1) : ofV b n = 1 := by
  unfold ofV; rw [if_neg (by omega)]; omega
theorem ofV_more {b n : Int} (h : 0 < b) (g : 1 < b / 100 * (75 + n % 26) + b % 100 * (75 + n % 26) / 100) : ofV b n = b / 100 * (75 + n % 26) + b % 100 * (75 + n % 26) / 100 := by
  unfold ofV; rw [if_neg (by omega)]; omega

theorem prod_bd (b k : Int) (hb : 0 ≤ b) (hk : 75 ≤ k) (hk2 : k ≤ 100) :
    0 ≤ b / 100 * k ∧ b / 100 * k ≤ b / 100 * 100 ∧ b / 100 * 75 ≤ b / 100 * k ∧ 0 ≤ b % 100 * k ∧ b % 100 * k ≤ b % 100 * 100 ∧ b % 100 * 75 ≤ b % 100 * k := by
  have h1 : 0 ≤ b / 100 := by omega
  have h2 : 0 ≤ b % 100 := by omega
  exact ⟨Int.mul_nonneg h1 (by omega), Int.mul_le_mul_of_nonneg_left hk2 h1, Int.mul_le_mul_of_nonneg_left hk h1, Int.mul_nonneg h2 (by omega), Int.mul_le_mul_of_nonneg_left hk2 h2, Int.mul_le_mul_of_nonneg_left hk h2⟩

theorem ret_int {k : IntKind} {a b : Int} (h : a = b) : Ending.returned (.int k a) = .returned (.int k b) := by rw [h]

set_option maxHeartbeats 400000 in
theorem of_any (b n : Int) (w : World) (hb2 : b < 9223372036854775808) (hn : 0 ≤ n) (hn2 : n < 4294967296) :
    Calls Try.prog 8 #[.int .i64 b, .int .u32 n] w fun e w' => e = .returned (.int .i64 (ofV b n)) ∧ w = w' := by
  by_cases hb : b ≤ 0
  · go_enter Try.func8, Try.ntmps8
    go_wp2
    go_ret
    exact ⟨ret_int (ofV_neg hb).symm, rfl⟩
  · have hp : 0 < b := by omega
    clear hb
    obtain ⟨p1, p2, p3, p4, p5, p6⟩ := prod_bd b (75 + n % 26) (by omega) (by omega) (by omega)
    go_enter Try.func8, Try.ntmps8
    go_wp2
    · go_ret
      exact ⟨ret_int (ofV_more hp (by assumption)).symm, rfl⟩
    · go_ret
      exact ⟨ret_int (ofV_one hp (by assumption)).symm, rfl⟩

set_option maxHeartbeats 400000 in
theorem ref_any (b n : Int) (w : World) (hb2 : b < 9223372036854775808) (hn : 0 ≤ n) (hn2 : n < 4294967296) :
    Calls Try.prog 9 #[.int .i64 b, .int .u32 n] w fun e w' => e = .returned (.int .i64 (ofV b n)) ∧ w = w' := by
  by_cases hb : b ≤ 0
  · go_enter Try.func9, Try.ntmps9
    go_wp2
    go_ret
    exact ⟨ret_int (ofV_neg hb).symm, rfl⟩
  · have hp : 0 < b := by omega
    clear hb
    obtain ⟨p1, p2, p3, p4, p5, p6⟩ := prod_bd b (75 + n % 26) (by omega) (by omega) (by omega)
    go_enter Try.func9, Try.ntmps9
    go_wp2
    · go_ret
      exact ⟨ret_int (ofV_more hp (by assumption)).symm, rfl⟩
    · go_ret
      exact ⟨ret_int (ofV_one hp (by assumption)).symm, rfl⟩

/-- P14.4: from three quarters to all. -/
theorem ofV_bd (b n : Int) (hb : 0 < b) (hn : 0 ≤ n) : 1 ≤ ofV b n ∧ ofV b n ≤ b ∧ b - b / 4 - 1 ≤ ofV b n ∧ ofV b (n % 26) = ofV b n := by
  obtain ⟨p1, p2, p3, p4, p5, p6⟩ := prod_bd b (75 + n % 26) (by omega) (by omega) (by omega)
  have e : n % 26 % 26 = n % 26 := by omega
  refine ⟨?_, ?_, ?_, by unfold ofV; rw [e]⟩ <;> unfold ofV <;> rw [if_neg (by omega)] <;> omega
end Go.Proofs.Ytohlppmalinooaa
