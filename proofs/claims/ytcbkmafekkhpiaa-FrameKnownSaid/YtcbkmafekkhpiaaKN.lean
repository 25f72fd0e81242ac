/- heraldlaw09: FrameKnown, the walk. -/
import Derived.Test.YtcbkmafekkhpiaaFU
import Derived.Test.YtcbkmafekkhpiaaFL
import Derived.Test.YtcbkmafekkhpiaaFZ
namespace Go.Proofs.Ytcbkmafekkhpiaa
open Go.RowKit
set_option linter.unusedVariables false

theorem zero50 (w : World) : (zeroValue 50).run Try.prog w = .ok (.agg #[.bool false, .slice none 0 0, .int .i64 0, .int .u8 0, .int .u8 0]) w := by kernel_rfl

set_option maxHeartbeats 4000000 in
set_option maxRecDepth 10000 in
theorem known_walk (w : World) :
    Calls Try.prog 7 #[] w fun e w' => e = .returned (.bool true) ∧ Below w.heap.size w w' := by
  have z := fun w => zeroV w
  have z50 := zero50
  go_enter Try.func7, Try.ntmps7
  go_wp2_with fail
  have hkr : (w.alloc (.cells #[.string ⟨#[0, 18, 4]⟩, .string ⟨#[0, 19, 6]⟩, .string ⟨#[0, 19, 1]⟩, .string ⟨#[16, 1, 2]⟩, .string ⟨#[0, 20, 4]⟩, .string ⟨#[0, 19, 0]⟩, .string ⟨#[0, 22, 2]⟩, .string ⟨#[0, 24, 5]⟩] 9)).heap[w.heap.size]? = some (.cells (knownS.map Value.string).toArray 9 (0, 0)) := heap_alloc_new w _
  have hal : Below w.heap.size w (w.alloc (.cells #[.string ⟨#[0, 18, 4]⟩, .string ⟨#[0, 19, 6]⟩, .string ⟨#[0, 19, 1]⟩, .string ⟨#[16, 1, 2]⟩, .string ⟨#[0, 20, 4]⟩, .string ⟨#[0, 19, 0]⟩, .string ⟨#[0, 22, 2]⟩, .string ⟨#[0, 24, 5]⟩] 9)) := (Below.refl _ _).alloc (Nat.le_refl _) _
  obtain ⟨M, hM⟩ : ∃ M, keepS.extract 0 16 = M := ⟨_, rfl⟩
  rw [show (⟨#[255, 255, 255, 255, 255, 255, 255, 255, 255, 255, 255, 255, 255, 255, 255, 255, 0, 19, 4]⟩ : ByteArray).extract 0 16 = M from hM]
  have HM := Lib.hid hM
  have hMs : M.size = 16 := by rw [← hM, ByteArray.size_extract]; rfl
  clear hM
  obtain ⟨G, hG⟩ : ∃ G, w.heap.size = G := ⟨_, rfl⟩
  have HG := Lib.hid hG
  rw [hG] at hkr ⊢
  clear hG
  have hGW : G < (w.alloc (.cells #[.string ⟨#[0, 18, 4]⟩, .string ⟨#[0, 19, 6]⟩, .string ⟨#[0, 19, 1]⟩, .string ⟨#[16, 1, 2]⟩, .string ⟨#[0, 20, 4]⟩, .string ⟨#[0, 19, 0]⟩, .string ⟨#[0, 22, 2]⟩, .string ⟨#[0, 24, 5]⟩] 9)).heap.size := lt_of_block hkr
  generalize w.alloc (.cells #[.string ⟨#[0, 18, 4]⟩, .string ⟨#[0, 19, 6]⟩, .string ⟨#[0, 19, 1]⟩, .string ⟨#[16, 1, 2]⟩, .string ⟨#[0, 20, 4]⟩, .string ⟨#[0, 19, 0]⟩, .string ⟨#[0, 22, 2]⟩, .string ⟨#[0, 24, 5]⟩] 9) = W1 at *
  have HKR := Lib.hid hkr
  have HAL := Lib.hid hal
  clear hkr hal
  go_loopw [27] (fun s wr => ∃ k : Nat, s = .int .i64 k ∧ k ≤ 8 ∧ Hid (Below w.heap.size w wr ∧ wr.heap[G]? = some (.cells (knownS.map Value.string).toArray 9 (0, 0)))) (fun i _ => 8 - (intOf i).toNat)
  case atStart => exact ⟨0, rfl, Nat.zero_le _, HAL.out, HKR.out⟩
  case round =>
    obtain ⟨k, rfl, hk, HH⟩ := hrel
    by_cases hlt : k < 8
    · have i0 : (0 : Int) ≤ (k : Int) := by omega
      have i1 : (k : Int) < 8 := by omega
      obtain ⟨hcut, hsz⟩ := known_cut k hlt
      have hcell : wr.cell? ⟨G, k, none⟩ = some (.string (knownS.getD k ⟨#[]⟩)) := (cell_of_row _ _ _ _ _ _ HH.out.2).trans (known_at k hlt)
      generalize knownS.getD k ⟨#[]⟩ = sk at *
      rw [HM.out] at hcut hsz
      obtain ⟨q, hq⟩ : ∃ q, (if k = 1 ∨ k = 5 then 3 else 2) = q := ⟨_, rfl⟩
      rw [hq] at hcut
      have hz : ¬ 9223372036854775807 < M.size + sk.size := by rw [ByteArray.size_append] at hsz; omega
      have HCUT := Lib.hid hcut
      have HSZ := Lib.hid hsz
      clear hcut hsz
      have hcase : (k = 1 ∧ q = 3) ∨ (k = 5 ∧ q = 3) ∨ (k ≠ 1 ∧ k ≠ 5 ∧ q = 2) := by
        by_cases h1 : k = 1
        · exact .inl ⟨h1, by rw [if_pos (.inl h1)] at hq; exact hq.symm⟩
        · by_cases h5 : k = 5
          · exact .inr (.inl ⟨h5, by rw [if_pos (.inr h5)] at hq; exact hq.symm⟩)
          · exact .inr (.inr ⟨h1, h5, by rw [if_neg (by omega)] at hq; exact hq.symm⟩)
      clear hq
      rcases hcase with ⟨rfl, rfl⟩ | ⟨rfl, rfl⟩ | ⟨h1, h5, rfl⟩
      all_goals
        first
          | (have j1 : ((k : Int) == 1) = false := by rw [beq_eq_false_iff_ne]; omega
             have j5 : ((k : Int) == 5) = false := by rw [beq_eq_false_iff_ne]; omega)
          | skip
        go_wp2_with fail
        refine (new_any _).mono ?_
        rintro e w6 ⟨rfl, hw6⟩
        have hF6 : IsF w6 wr.heap.size (.slice none 0 0) [] 0 := hw6 ▸ isF_new wr
        have hb6 : Below wr.heap.size wr w6 := hw6 ▸ (Below.refl _ _).alloc (Nat.le_refl _) _
        have hB6 := HH.out.1.trans (hb6.mono HH.out.1.size)
        have hr6 := (hb6.block G (lt_of_block HH.out.2)).trans HH.out.2
        have hput := put_any wr.heap.size _ [] 0 (M ++ sk) w6 hF6 (by rw [HSZ.out]; decide)
        rw [HCUT.out] at hput
        clear hw6 hb6
        go_wp2_with fail
        refine hput.mono ?_
        rintro e w8 ⟨va, vw8, he, hr8, hF8, hbt8, _⟩
        have hbe := hB6.trans (hbt8.below HH.out.1.size hB6.size)
        have hre := (hbt8.block G (lt_of_block hr6) (by have := lt_of_block HH.out.2; omega)).trans hr6
        obtain ⟨aa, ca, rfl⟩ := own_form hr8
        clear hput hr8 hF8 hbt8 hF6 hB6 hr6
        first
          | (have he' : e = .returned (.tuple #[.slice aa ([] : List Fr).length ca, .agg #[.int .i64 3, .int .u8 1, .int .u8 3]]) := he
             subst he'
             have hv := heap_alloc_new w8 (.cells #[.int .i64 3, .int .u8 1, .int .u8 3] 34)
             have hal : Below w8.heap.size w8 (w8.alloc (.cells #[.int .i64 3, .int .u8 1, .int .u8 3] 34)) := (Below.refl _ _).alloc (Nat.le_refl _) _)
          | (have he' : e = .returned (.tuple #[.slice aa ([] : List Fr).length ca, .agg #[.int .i64 3, .int .u8 1, .int .u8 2]]) := he
             subst he'
             have hv := heap_alloc_new w8 (.cells #[.int .i64 3, .int .u8 1, .int .u8 2] 34)
             have hal : Below w8.heap.size w8 (w8.alloc (.cells #[.int .i64 3, .int .u8 1, .int .u8 2] 34)) := (Below.refl _ _).alloc (Nat.le_refl _) _)
        have hIN := And.intro (hbe.trans (hal.mono hbe.size)) ((hal.block G (lt_of_block hre)).trans hre)
        have c0 := cell_of_row _ _ 0 _ _ _ hv
        have c1 := cell_of_row _ _ 1 _ _ _ hv
        have c2 := cell_of_row _ _ 2 _ _ _ hv
        simp at c0 c1 c2
        have HIN := Lib.hid hIN
        clear hIN hv hal hbe hre
        go_simp
        go_wp2_with fail
        go_roundw
        case rel => first | exact ⟨k + 1, by go_num, by omega, HIN.out⟩ | exact ⟨2, by go_num, by omega, HIN.out⟩ | exact ⟨6, by go_num, by omega, HIN.out⟩
        case measure => first | (simp [intOf]; done) | (simp [intOf]; omega)
    · obtain rfl : k = 8 := by omega
      have hB := HH.out.1
      clear HH hk hlt
      go_wp2_with fail
      refine (new_any _).mono ?_
      rintro e w6 ⟨rfl, hw6⟩
      have hF6 : IsF w6 wr.heap.size (.slice none 0 0) [] 0 := hw6 ▸ isF_new wr
      have hb6 : Below wr.heap.size wr w6 := hw6 ▸ (Below.refl _ _).alloc (Nat.le_refl _) _
      have hB6 := hB.trans (hb6.mono hB.size)
      have hp2 := two_cut
      have hme : M.extract 0 15 = keepS.extract 0 15 := by rw [← HM.out]; rfl
      rw [← hme] at hp2
      have hs2 : (keepS ++ M.extract 0 15 ++ ⟨#[0, 0, 19, 4]⟩).size = 38 := by rw [hme]; rfl
      have hput := put_any wr.heap.size _ [] 0 (keepS ++ M.extract 0 15 ++ ⟨#[0, 0, 19, 4]⟩) w6 hF6 (by rw [hs2]; decide)
      rw [hp2] at hput
      have e15 : (M.extract 0 15).size = 15 := by rw [hme]; rfl
      clear hw6 hb6 hme hp2
      go_wp2_with fail
      refine hput.mono ?_
      rintro e w8 ⟨va, vw8, he, hr8, hF8, hbt8, _⟩
      have hbe := hB6.trans (hbt8.below hB.size hB6.size)
      obtain ⟨aa, ca, rfl⟩ := own_form hr8
      have he' : e = .returned (.tuple #[.slice aa ([((4, []) : Fr)]).length ca, .agg #[.int .i64 3, .int .u8 1, .int .u8 1]]) := he
      subst he'
      clear hput hr8 hF8 hbt8 hF6 hB6 hB he
      have hv := heap_alloc_new w8 (.cells #[.int .i64 3, .int .u8 1, .int .u8 1] 34)
      have hal : Below w8.heap.size w8 (w8.alloc (.cells #[.int .i64 3, .int .u8 1, .int .u8 1] 34)) := (Below.refl _ _).alloc (Nat.le_refl _) _
      have hB9 := hbe.trans (hal.mono hbe.size)
      have c0 := cell_of_row _ _ 0 _ _ _ hv
      have c1 := cell_of_row _ _ 1 _ _ _ hv
      have c2 := cell_of_row _ _ 2 _ _ _ hv
      simp at c0 c1 c2
      clear hal hbe hv
      go_simp
      go_wp2_with fail
      rw [show (#[.int .i64 4, .string ⟨#[97]⟩, .int .i64 1, .string ⟨#[49, 50, 51, 52, 53, 54, 55, 56, 57]⟩, .int .i64 6, .string ⟨#[]⟩, .int .i64 0, .string ⟨#[]⟩, .int .i64 5, .string ⟨#[49, 50, 51]⟩] : Array Value) = knownC from rfl]
      have hal2 : Below (w8.alloc (.cells #[.int .i64 3, .int .u8 1, .int .u8 1] 34)).heap.size (w8.alloc (.cells #[.int .i64 3, .int .u8 1, .int .u8 1] 34)) ((w8.alloc (.cells #[.int .i64 3, .int .u8 1, .int .u8 1] 34)).alloc (.cells knownC 23)) := (Below.refl _ _).alloc (Nat.le_refl _) _
      have hkr2 := heap_alloc_new (w8.alloc (.cells #[.int .i64 3, .int .u8 1, .int .u8 1] 34)) (.cells knownC 23)
      have hs9 : (w8.alloc (.cells #[.int .i64 3, .int .u8 1, .int .u8 1] 34)).heap.size = w8.heap.size + 1 := by simp
      have HB10 : Hid (Below w.heap.size w ((w8.alloc (.cells #[.int .i64 3, .int .u8 1, .int .u8 1] 34)).alloc (.cells knownC 23))) := hB9.trans (hal2.mono hB9.size)
      rw [hs9] at hkr2
      have HKR2 := Lib.hid hkr2
      clear hs9 hkr2 hal2 hB9 c0 c1 c2
      generalize (w8.alloc (.cells #[.int .i64 3, .int .u8 1, .int .u8 1] 34)).alloc (.cells knownC 23) = w10 at *
      generalize hG2 : w8.heap.size + 1 = G2 at *
      go_loopw [86] (fun s wr => ∃ k : Nat, s = .int .i64 k ∧ k ≤ 5 ∧ Hid (Below w.heap.size w wr ∧ wr.heap[G2]? = some (.cells knownC 23 (0, 0)))) (fun i _ => 5 - (intOf i).toNat)
      case atStart => exact ⟨0, rfl, Nat.zero_le _, HB10.out, HKR2.out⟩
      case round =>
        obtain ⟨k, rfl, hk, HH⟩ := hrel
        by_cases hlt : k < 5
        · have i0 : (0 : Int) ≤ (k : Int) := by omega
          have i1 : (k : Int) < 5 := by omega
          obtain ⟨x0, y0, hmk, hsz⟩ := knownF_at k hlt
          have a0 := (cell_of_row _ _ (k * 2) _ _ _ HH.out.2).trans x0
          have a1 := (cell_of_row _ _ (k * 2 + 1) _ _ _ HH.out.2).trans y0
          generalize (knownF.getD k (0, ⟨#[]⟩)).1 = x at *
          generalize (knownF.getD k (0, ⟨#[]⟩)).2 = y at *
          clear x0 y0
          have hm := make_any (x : Nat) y (wr.alloc (.cells #[.int .i64 (x : Nat), .string y] 23)) hsz
          rw [hmk] at hm
          generalize mkS (makeR (x : Nat) (toL y)).1 = R at hm
          have hal : Below wr.heap.size wr (wr.alloc (.cells #[.int .i64 (x : Nat), .string y] 23)) := (Below.refl _ _).alloc (Nat.le_refl _) _
          clear hmk hsz
          go_wp2_with fail
          refine hm.mono ?_
          rintro e w6 ⟨rfl, hb6⟩
          have hIN := And.intro (HH.out.1.trans ((hal.mono HH.out.1.size).trans (hb6.mono (by have := HH.out.1.size; simp; omega)))) ((hb6.block G2 (by have := lt_of_block HH.out.2; simp; omega)).trans ((hal.block G2 (lt_of_block HH.out.2)).trans HH.out.2))
          have HIN := Lib.hid hIN
          clear hIN hal hb6 hm
          go_wp2_with fail
          go_roundw
          case rel => exact ⟨k + 1, by go_num, by omega, HIN.out⟩
          case measure => simp [intOf]; omega
        · obtain rfl : k = 5 := by omega
          have hB := HH.out.1
          clear HH hk hlt
          obtain ⟨Z8, S8, mk8, cv8, hS8, hs8⟩ := zeros_any 4078 4078 rfl (by decide)
          obtain ⟨Z7, S7, mk7, cv7, hS7, hs7⟩ := zeros_any 4077 4077 rfl (by decide)
          have hm8 := fun w => make_any 2 S8 w (by omega)
          have hm7 := fun w => make_any 2 S7 w (by omega)
          rw [hS8, long_err] at hm8
          rw [hS7, long_ok.1] at hm7
          have hl7 : (mkS (makeR 2 (List.replicate 4077 0)).1).size = 4096 := by rw [mkS_size]; exact long_ok.2
          generalize mkS (makeR 2 (List.replicate 4078 0)).1 = R8 at hm8
          generalize mkS (makeR 2 (List.replicate 4077 0)).1 = R7 at hm7 hl7
          have HM8 := Lib.hid hm8
          have HM7 := Lib.hid hm7
          clear hm8 hm7 hS8 hS7 hs8 hs7
          go_wp2_with fail
          refine (HM8.out _).mono ?_
          rintro e w11 ⟨rfl, hb11⟩
          have hB11 : Below w.heap.size w w11 := (hB.alloc hB.size _).trans (hb11.mono (by have := hB.size; simp; omega))
          clear hb11 hB HM8 mk8 cv8
          go_wp2_with fail
          refine (HM7.out _).mono ?_
          rintro e w12 ⟨rfl, hb12⟩
          have hB12 : Below w.heap.size w w12 := (hB11.alloc hB11.size _).trans (hb12.mono (by have := hB11.size; simp; omega))
          clear hb12 hB11 HM7 mk7 cv7
          go_wp2_with fail
          refine (put_none _ _ _ (.inl rfl)).mono ?_
          rintro e w13 ⟨rfl, hb13⟩
          have hB13 := hB12.trans (hb13.mono hB12.size)
          clear hb13 hB12
          go_wp2_with fail
          have hv := heap_alloc_new w13 (.cells #[.int .i64 0, .int .u8 0, .int .u8 0] 34)
          have hn := heap_alloc_new (w13.alloc (.cells #[.int .i64 0, .int .u8 0, .int .u8 0] 34)) (.cells #[.bool false, .slice none 0 0, .int .i64 0, .int .u8 0, .int .u8 0] 50)
          have hs : (w13.alloc (.cells #[.int .i64 0, .int .u8 0, .int .u8 0] 34)).heap.size = w13.heap.size + 1 := by simp
          have hal : Below (w13.alloc (.cells #[.int .i64 0, .int .u8 0, .int .u8 0] 34)).heap.size (w13.alloc (.cells #[.int .i64 0, .int .u8 0, .int .u8 0] 34)) ((w13.alloc (.cells #[.int .i64 0, .int .u8 0, .int .u8 0] 34)).alloc (.cells #[.bool false, .slice none 0 0, .int .i64 0, .int .u8 0, .int .u8 0] 50)) := (Below.refl _ _).alloc (Nat.le_refl _) _
          have hv2 := (hal.block _ (lt_of_block hv)).trans hv
          have hB14 : Below w.heap.size w ((w13.alloc (.cells #[.int .i64 0, .int .u8 0, .int .u8 0] 34)).alloc (.cells #[.bool false, .slice none 0 0, .int .i64 0, .int .u8 0, .int .u8 0] 50)) := (hB13.alloc hB13.size _).trans (hal.mono (by have := hB13.size; simp; omega))
          rw [hs] at hn
          clear hs hal hv hB13
          generalize hP21 : w13.heap.size = P21 at *
          generalize (w13.alloc (.cells #[.int .i64 0, .int .u8 0, .int .u8 0] 34)).alloc (.cells #[.bool false, .slice none 0 0, .int .i64 0, .int .u8 0, .int .u8 0] 50) = w14 at *
          refine (put_none _ _ _ (.inr ⟨_, rfl, lt_of_block hn, cell_of_row _ _ 0 _ _ _ hn⟩)).mono ?_
          rintro e w15 ⟨rfl, hb15⟩
          have hv15 := (hb15.block _ (lt_of_block hv2)).trans hv2
          have hB15 := hB14.trans (hb15.mono hB14.size)
          clear hb15 hB14 hn hv2
          have hal : Below w15.heap.size w15 (w15.alloc (.cells #[.int .i64 0, .int .u8 0, .int .u8 0] 34)) := (Below.refl _ _).alloc (Nat.le_refl _) _
          have hu := heap_alloc_new w15 (.cells #[.int .i64 0, .int .u8 0, .int .u8 0] 34)
          have hv16 := (hal.block _ (lt_of_block hv15)).trans hv15
          have hB16 := hB15.trans (hal.mono hB15.size)
          have r0 := cell_of_row _ _ 0 _ _ _ hv16
          have r1 := cell_of_row _ _ 1 _ _ _ hv16
          have r2 := cell_of_row _ _ 2 _ _ _ hv16
          have s0 := cell_of_row _ _ 0 _ _ _ hu
          have s1 := cell_of_row _ _ 1 _ _ _ hu
          have s2 := cell_of_row _ _ 2 _ _ _ hu
          simp at r0 r1 r2 s0 s1 s2
          clear hal hu hv15 hv16 hB15
          go_simp
          go_wp2_with fail
          refine (left_none _).mono ?_
          rintro e w17 ⟨rfl, rfl⟩
          go_wp2_with fail
          refine (copy_none _).mono ?_
          rintro e w17 ⟨rfl, rfl⟩
          go_wp2_with fail
          refine (works_any _).mono ?_
          rintro e w18 ⟨rfl, hb18⟩
          have hB18 := hB16.trans (hb18.mono hB16.size)
          clear hb18 hB16
          go_wp2_with fail
          go_ret
          exact ⟨rfl, hB18⟩
end Go.Proofs.Ytcbkmafekkhpiaa
