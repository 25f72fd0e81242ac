/- heraldlaw09: FrameMakes, the walk. -/
import Derived.Test.YtcbkmafekkhpiaaFW
import Derived.Test.YtcbkmafekkhpiaaFN
namespace Go.Proofs.Ytcbkmafekkhpiaa
open Go.RowKit
set_option linter.unusedVariables false

theorem makeRr_eq (k : Int) (l : List UInt8) : makeRr k l = makeR k l := rfl

set_option maxHeartbeats 1000000 in
theorem makes_walk (k : Int) (s : ByteArray) (w : World) : Calls Try.prog 3 #[.agg #[.int .i64 k, .string s]] w fun e w' => e = .returned (.bool true) ∧ Below w.heap.size w w' := by
  obtain ⟨n, hn⟩ : ∃ n, min s.size 5000 = n := ⟨_, rfl⟩
  have hmin : (if (5000 : Int) < (s.size : Int) then (5000 : Int) else (s.size : Int)) = (n : Int) := by split <;> omega
  have hmin2 : min (s.size : Int) 5000 = (n : Int) := by omega
  have hn1 : (n : Int) ≤ (s.size : Int) := by omega
  have hn0 : (0 : Int) ≤ (n : Int) := by omega
  have HE : Hid ((s.extract 0 n).size ≤ 1000000) := by show _ ≤ _; rw [ByteArray.size_extract]; omega
  clear hn
  go_enter Try.func3, Try.ntmps3
  go_wp2_with fail
  obtain ⟨B, hB⟩ : ∃ B, s.extract 0 n = B := ⟨_, rfl⟩
  rw [hB] at HE ⊢
  have hg0 := heap_alloc_new w (.cells #[.int .i64 k, .string B] 23)
  have hb0 : Below w.heap.size w (w.alloc (.cells #[.int .i64 k, .string B] 23)) := (Below.refl _ _).alloc (Nat.le_refl _) _
  generalize w.alloc (.cells #[.int .i64 k, .string B] 23) = W at *
  refine (make_any k B _ HE.out).mono ?_
  rintro e w1 ⟨rfl, hb1⟩
  have hg1 := (hb1.block _ (lt_of_block hg0)).trans hg0
  have hbw1 := hb0.trans (hb1.mono hb0.size)
  have c0 : w1.cell? ⟨w.heap.size, 0, none⟩ = some (.int .i64 k) := cell_of_row _ _ _ _ _ _ hg1
  have c1 : w1.cell? ⟨w.heap.size, 1, none⟩ = some (.string B) := cell_of_row _ _ _ _ _ _ hg1
  clear hb1 hb0 hg0 hg1
  obtain ⟨X, hX⟩ : ∃ X, mkS (makeR k (toL B)).1 = X := ⟨_, rfl⟩
  obtain ⟨Y, hY⟩ : ∃ Y, (makeR k (toL B)).2 = Y := ⟨_, rfl⟩
  rw [hX, hY]
  have HX := Lib.hid hX
  have HY := Lib.hid hY
  clear hX hY
  go_wp2_with fail
  refine (rmake_any k B _ HE.out).mono ?_
  rw [makeRr_eq, HX.out, HY.out]
  rintro e w2 ⟨rfl, hb2⟩
  have hbw2 := hbw1.trans (hb2.mono hbw1.size)
  clear hb2 hbw1 c0 c1
  go_wp2_with fail
  refine (works_any _).mono ?_
  rintro e w3 ⟨rfl, hb3⟩
  have hbw3 := hbw2.trans (hb3.mono hbw2.size)
  clear hb3 hbw2
  go_wp2_with fail
  go_ret
  exact ⟨rfl, hbw3⟩
end Go.Proofs.Ytcbkmafekkhpiaa
