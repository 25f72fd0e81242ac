/- heraldlaw09: works. -/
import Derived.Test.YtcbkmafekkhpiaaFE
namespace Go.Proofs.Ytcbkmafekkhpiaa
open Go.RowKit
set_option linter.unusedVariables false

def keepS : ByteArray := ⟨#[255, 255, 255, 255, 255, 255, 255, 255, 255, 255, 255, 255, 255, 255, 255, 255, 0, 19, 4]⟩
theorem keep_mk : toL keepS = mk (4, []) := rfl
theorem ok_keep : okF (4, []) := ⟨by decide, by decide, by decide, by decide, by decide⟩

set_option maxHeartbeats 4000000 in
theorem works_any (w : World) : Calls Try.prog 10 #[] w fun e w' => e = .returned (.bool true) ∧ Below w.heap.size w w' := by
  have z := fun w => zeroV w
  go_enter Try.func10, Try.ntmps10
  go_wp2_with fail
  refine (new_any _).mono ?_
  rintro e w1 ⟨rfl, hw1⟩
  have hF1 : IsF w1 w.heap.size (.slice none 0 0) [] 0 := hw1 ▸ isF_new w
  have hb1 : Below w.heap.size w w1 := hw1 ▸ (Below.refl _ _).alloc (Nat.le_refl _) _
  clear hw1
  obtain ⟨b, hb⟩ : ∃ b, w.heap.size = b := ⟨_, rfl⟩
  have hbb : w.heap.size ≤ b := by omega
  rw [hb] at hF1 ⊢
  clear hb
  go_wp2_with fail
  have e5 : putR [] 0 (toL (keepS.extract 0 5)) = ([], 0, (toL keepS).take 5) := by
    unfold putR
    rw [if_pos rfl, List.nil_append, toL_extract, List.drop_zero]
    exact cut_short (by decide)
  have hp5 := put_any b _ [] 0 (keepS.extract 0 5) w1 hF1 (by rw [ByteArray.size_extract]; show 0 + (min 5 _ - 0) ≤ _; omega)
  rw [e5] at hp5
  refine hp5.mono ?_
  rintro e w5 ⟨va, vw5, he, hr5, hF5, hbt5, _⟩
  have he' : e = .returned (.tuple #[va, .agg #[.int .i64 0, .int .u8 0, .int .u8 0]]) := he
  clear he e5 hp5
  subst he'
  obtain ⟨aa, ca, rfl⟩ := own_form hr5
  have hb5 : Below w.heap.size w w5 := hb1.trans (hbt5.below hbb hb1.size)
  clear hr5 hb1 hbt5 hF1
  go_simp
  have hF5a : IsF (w5.alloc (.cells #[.int .i64 0, .int .u8 0, .int .u8 0] 34)) b vw5 ((toL keepS).take 5) 0 := hF5.below ((Below.refl _ _).alloc (Nat.le_refl _) _)
  have hb5a : Below w.heap.size w (w5.alloc (.cells #[.int .i64 0, .int .u8 0, .int .u8 0] 34)) := hb5.alloc hb5.size _
  have hq3 := heap_alloc_new w5 (.cells #[.int .i64 0, .int .u8 0, .int .u8 0] 34)
  have hp3 : b < w5.heap.size := hF5.lt
  clear hF5 hb5
  go_wp2_with fail
  obtain ⟨p3, hp3e⟩ : ∃ p3, w5.heap.size = p3 := ⟨_, rfl⟩
  rw [hp3e] at hq3 hp3 ⊢
  clear hp3e
  generalize w5.alloc (.cells #[.int .i64 0, .int .u8 0, .int .u8 0] 34) = w5a at *
  have e6 : putR ((toL keepS).take 5) 0 (toL (keepS.extract 5 19)) = ([(4, [])], 0, []) := by
    unfold putR
    rw [if_pos rfl, toL_extract, show (toL keepS).take 19 = toL keepS from rfl, List.take_append_drop, keep_mk]
    have := cut_mk (4, []) [] ok_keep
    rw [List.append_nil] at this
    rw [this, cut_nil]
  have hp6 := put_any b _ ((toL keepS).take 5) 0 (keepS.extract 5 19) w5a hF5a (by rw [ByteArray.size_extract]; show 5 + (min 19 _ - 5) ≤ _; omega)
  rw [e6] at hp6
  refine hp6.mono ?_
  rintro e w6 ⟨vb, vw6, he, hr6, hF6, hbt6, _⟩
  have he' : e = .returned (.tuple #[vb, .agg #[.int .i64 0, .int .u8 0, .int .u8 0]]) := he
  clear he e6 hp6
  subst he'
  have hq36 : w6.heap[p3]? = some (.cells #[.int .i64 0, .int .u8 0, .int .u8 0] 34 (0, 0)) := (hbt6.block _ (lt_of_block hq3) (by omega)).trans hq3
  obtain ⟨g6, cap6, hvb, hg6, hg6b⟩ := World.ownsRow.form hr6 (by decide)
  subst hvb
  obtain ⟨ao, cap, g, off, hv, h1, h2, h3⟩ := hr6.rd
  obtain ⟨hao, _⟩ := h2 (by decide)
  injection hv with hv1 hv2 hv3
  rw [← hv1] at hao
  injection hao with hao
  injection hao with hg0 ho0
  subst hg0 ho0
  obtain ⟨h30, h31⟩ := h3 0 (by decide)
  have hb6 : Below w.heap.size w w6 := hb5a.trans (hbt6.below hbb hb5a.size)
  clear hv1 hv2 hv3 h1 h2 h3 hr6 hbt6 hb5a hF5a hq3 hg6
  go_simp
  have hal : Below w6.heap.size w6 (w6.alloc (.cells #[.int .i64 0, .int .u8 0, .int .u8 0] 34)) := (Below.refl _ _).alloc (Nat.le_refl _) _
  have hq5 := heap_alloc_new w6 (.cells #[.int .i64 0, .int .u8 0, .int .u8 0] 34)
  have hq3a := (hal.block _ (lt_of_block hq36)).trans hq36
  have h30a := (hal.cell (p := ⟨g6, 0 + 0 * 2, none⟩) hg6b).trans h30
  have h31a := (hal.cell (p := ⟨g6, 0 + 0 * 2 + 1, none⟩) hg6b).trans h31
  have hb6a := hb6.alloc hb6.size (.cells #[.int .i64 0, .int .u8 0, .int .u8 0] 34)
  clear hq36 h30 h31 hal hb6 hF6
  go_wp2_with fail
  obtain ⟨p5, hp5e⟩ : ∃ p5, w6.heap.size = p5 := ⟨_, rfl⟩
  rw [hp5e] at hq5 hg6b ⊢
  have hg6c : g6 < (w6.alloc (.cells #[.int .i64 0, .int .u8 0, .int .u8 0] 34)).heap.size := by simp; omega
  clear hp5e
  generalize w6.alloc (.cells #[.int .i64 0, .int .u8 0, .int .u8 0] 34) = w6a at *
  have hmk := make_any 4 ⟨#[]⟩ w6a (by decide)
  rw [show makeR 4 (toL ⟨#[]⟩) = (mk (4, []), 0) from rfl] at hmk
  refine hmk.mono ?_
  rintro e w7 ⟨he, hb7⟩
  have he' : e = .returned (.tuple #[.string keepS, .int .i64 0]) := he
  clear he hmk
  subst he'
  have k3 := (hb7.block _ (lt_of_block hq3a)).trans hq3a
  have k5 := (hb7.block _ (lt_of_block hq5)).trans hq5
  have m0 : w7.cell? ⟨g6, 0, none⟩ = some (.int .i64 4) := (hb7.cell hg6c).trans h30a
  have m1 : w7.cell? ⟨g6, 1, none⟩ = some (.string ⟨#[]⟩) := (hb7.cell hg6c).trans h31a
  have r0 : w7.cell? ⟨p3, 0, none⟩ = some (.int .i64 0) := cell_of_row _ _ _ _ _ _ k3
  have r1 : w7.cell? ⟨p3, 1, none⟩ = some (.int .u8 0) := cell_of_row _ _ _ _ _ _ k3
  have r2 : w7.cell? ⟨p3, 2, none⟩ = some (.int .u8 0) := cell_of_row _ _ _ _ _ _ k3
  have s0 : w7.cell? ⟨p5, 0, none⟩ = some (.int .i64 0) := cell_of_row _ _ _ _ _ _ k5
  have s1 : w7.cell? ⟨p5, 1, none⟩ = some (.int .u8 0) := cell_of_row _ _ _ _ _ _ k5
  have s2 : w7.cell? ⟨p5, 2, none⟩ = some (.int .u8 0) := cell_of_row _ _ _ _ _ _ k5
  have hb8 : Below w.heap.size w w7 := hb6a.trans (hb7.mono hb6a.size)
  clear hb7 hb6a hq3a hq5 h30a h31a k3 k5
  have hkl : keepS.toList = [255, 255, 255, 255, 255, 255, 255, 255, 255, 255, 255, 255, 255, 255, 255, 255, 0, 19, 4] := ByteArray.toList_mk [255, 255, 255, 255, 255, 255, 255, 255, 255, 255, 255, 255, 255, 255, 255, 255, 0, 19, 4]
  go_wp2_with fail
  go_ret
  exact ⟨rfl, hb8⟩
end Go.Proofs.Ytcbkmafekkhpiaa
