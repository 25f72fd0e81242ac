/- heraldlaw14.works, and the walks of DrawOf and DrawBetween. -/
import Derived.Test.YtohlppmalinooaaC
namespace Go.Proofs.Ytohlppmalinooaa
open Go.RowKit
set_option linter.unusedVariables false

theorem Only.below {b B : Nat} {w w' : World} (h : Only b w w') (hb : B ≤ b) : Below B w w' :=
  ⟨h.os, h.tape, h.output, Nat.le_of_eq h.size.symm, fun k hk => h.block k (by omega)⟩

theorem ofV_100_0 : ofV 100 0 = 75 := by decide
theorem ofV_100_25 : ofV 100 25 = 100 := by decide

set_option maxHeartbeats 400000 in
theorem works_any (w : World) :
    Calls Try.prog 10 #[] w fun e w' => e = .returned (.bool true) ∧ Below w.heap.size w w' := by
  have H0 : Hid (w.heap.size ≤ w.heap.size) := Lib.hid (Nat.le_refl _)
  go_enter Try.func10, Try.ntmps10
  go_wp2_with fail
  refine (new_any _).mono ?_
  rintro e w1 ⟨rfl, hw1⟩
  have hd1 : IsD w1 w.heap.size [] := hw1 ▸ isD_new w
  have hb1 : Below w.heap.size w w1 := hw1 ▸ (Below.refl _ _).alloc (Nat.le_refl _) _
  clear hw1
  go_wp2_with fail
  refine (push_any _ _ 0 (by omega) (by omega) _ hd1 (by simp)).mono ?_
  rintro e w2 ⟨rfl, hd2, ho2⟩
  replace hb1 := hb1.trans (ho2.below (Nat.le_refl _)); clear hd1 ho2
  go_wp2_with fail
  refine (push_any _ _ 25 (by omega) (by omega) _ hd2 (by simp)).mono ?_
  rintro e w3 ⟨rfl, hd3, ho3⟩
  replace hb1 := hb1.trans (ho3.below (Nat.le_refl _)); clear hd2 ho3
  go_wp2_with fail
  refine (jitter_any _ 100 (by omega) (by omega) 0 [25] _ hd3).mono ?_
  rw [ofV_100_0]
  rintro e w4 ⟨rfl, hd4, ho4⟩
  replace hb1 := hb1.trans (ho4.below (Nat.le_refl _)); clear hd3 ho4
  go_wp2_with fail
  refine (left_any _ _ _ hd4).mono ?_
  rintro e w' ⟨rfl, rfl⟩
  go_wp2_with fail
  refine (jitter_any _ 100 (by omega) (by omega) 25 [] _ hd4).mono ?_
  rw [ofV_100_25]
  rintro e w5 ⟨rfl, hd5, ho5⟩
  replace hb1 := hb1.trans (ho5.below (Nat.le_refl _)); clear hd4 ho5
  go_wp2_with fail
  refine (jitter_any_nil _ 100 (by omega) _ hd5).mono ?_
  rintro e w' ⟨rfl, rfl⟩
  go_wp2_with fail
  go_ret
  exact ⟨rfl, hb1⟩
end Go.Proofs.Ytohlppmalinooaa
