/- heraldlaw09: FrameCuts, the walk. -/
import Derived.Test.YtcbkmafekkhpiaaFW
import Derived.Test.YtcbkmafekkhpiaaFV
namespace Go.Proofs.Ytcbkmafekkhpiaa
open Go.RowKit
set_option linter.unusedVariables false

theorem cut_step (X Y : List UInt8) : cut (X ++ Y) = ((cut X).1 ++ (putR (cut X).2.2 (cut X).2.1 Y).1, (putR (cut X).2.2 (cut X).2.1 Y).2) := by
  unfold putR
  by_cases hq : (cut X).2.1 = 0
  · rw [if_pos hq]
    exact cut_app0 Y hq
  · rw [if_neg hq, cut_appN Y hq]
    have := (cut_left _ X (Nat.le_refl _)).2.2.1 hq
    rw [List.append_nil, ← this]
theorem toL_append (a b : ByteArray) : toL (a ++ b) = toL a ++ toL b := by
  unfold toL
  rw [ByteArray.data_append]
  simp

theorem FRd.from {w : World} {g cap n T : Nat} {A : Addr} {L : List Fr} (h : FRd w (.slice (some ⟨g, 0, none⟩) n cap) L) (hn : n = L.length) (hT : T ≤ L.length) (hA : (if cap = T then (some (⟨g, 0, none⟩ : Addr)) else some ⟨g, T * 2, none⟩) = some A) (hc : n ≤ cap) : FRd w (.slice (some A) (n - T) (cap - T)) (L.drop T) := by
  obtain ⟨ao, cap', g', off', e, h1, h2, h3⟩ := h
  injection e with e1 e2 e3
  subst e2 e3
  refine ⟨some A, cap - T, g, T * 2, by rw [List.length_drop], by rw [List.length_drop]; omega, fun h0 => ?_, fun i hi => ?_⟩
  · rw [List.length_drop] at h0
    rw [if_neg (by omega)] at hA
    have := h2 (by omega)
    rw [← e1] at this
    injection this.1 with h5
    injection h5 with h6 h7
    exact ⟨hA.symm, by rw [h6]; exact this.2⟩
  · rw [List.length_drop] at hi
    have := h2 (by omega)
    rw [← e1] at this
    injection this.1 with h5
    injection h5 with h6 h7
    subst h6 h7
    have h8 := h3 (T + i) (by omega)
    rw [List.getD_eq_getElem?_getD, List.getElem?_drop, ← List.getD_eq_getElem?_getD]
    rw [show T * 2 + i * 2 = 0 + (T + i) * 2 by omega]
    exact h8

set_option maxHeartbeats 4000000 in
set_option maxRecDepth 10000 in
theorem cuts_walk (ao : Option Addr) (bl off len cap : Nat) (w : World) (hm : len ≤ 9223372036854775807) (hao : 0 < len → ao = some ⟨bl, off, none⟩ ∧ bl < w.heap.size) (hst : ∀ i, i < len → ∃ s : ByteArray, w.cell? ⟨bl, off + i, none⟩ = some (.string s)) :
    Calls Try.prog 4 #[.slice ao len cap] w fun e w' => e = .returned (.bool true) ∧ Below w.heap.size w w' := by
  have z := fun w => zeroV w
  have HAO := Lib.hid hao
  have HST := Lib.hid hst
  clear hao hst
  go_enter Try.func4, Try.ntmps4
  go_wp2_with fail
  refine (new_any _).mono ?_
  rintro e w1 ⟨rfl, hw1⟩
  have hF1 : IsF w1 w.heap.size (.slice none 0 0) [] 0 := hw1 ▸ isF_new w
  have hb1 : Below w.heap.size w w1 := hw1 ▸ (Below.refl _ _).alloc (Nat.le_refl _) _
  clear hw1
  obtain ⟨b, hb⟩ : ∃ b, w.heap.size = b := ⟨_, rfl⟩
  have hbb : w.heap.size ≤ b := by omega
  rw [hb] at hF1 ⊢
  clear hb
  go_wp2_with fail
  go_loopw [4, 5, 6] (fun s4 s5 s6 wr => ∃ (k : Nat) (wh : ByteArray) (vw : Value), s4 = .string wh ∧ s5 = .int .i64 ((cut (toL wh)).1.length : Nat) ∧ s6 = .int .i64 k ∧ k ≤ len ∧ k ≤ 60 ∧ wh.size ≤ k * 5000 ∧ Hid (IsF wr b vw (cut (toL wh)).2.2 (cut (toL wh)).2.1 ∧ Below w.heap.size w wr)) (fun _ _ i _ => len - (intOf i).toNat)
  case atStart => exact ⟨0, ⟨#[]⟩, _, rfl, rfl, rfl, Nat.zero_le _, Nat.zero_le _, Nat.zero_le _, ⟨hF1, hb1⟩⟩
  case round =>
    obtain ⟨k, wh, vw, rfl, rfl, rfl, hk, hk60, hwh, HFB⟩ := hrel
    clear hF1 hb1
    by_cases hlt : k < len
    · by_cases h60 : k < 60
      · obtain ⟨rfl, hbl⟩ := HAO.out (by omega)
        obtain ⟨s, hs⟩ := HST.out k hlt
        have hc : wr.cell? ⟨bl, off + k, none⟩ = some (.string s) := (HFB.out.2.cell hbl).trans hs
        obtain ⟨n, hn⟩ : ∃ n, min s.size 5000 = n := ⟨_, rfl⟩
        have hmin : (if (5000 : Int) < (s.size : Int) then (5000 : Int) else (s.size : Int)) = (n : Int) := by split <;> omega
        have hmin2 : min (s.size : Int) 5000 = (n : Int) := by omega
        have hn1 : (n : Int) ≤ (s.size : Int) := by omega
        have hn0 : (0 : Int) ≤ (n : Int) := by omega
        have HE : Hid ((s.extract 0 n).size ≤ 5000) := by show _ ≤ _; rw [ByteArray.size_extract]; omega
        have i1 : (0 : Int) ≤ (k : Int) := by omega
        have i2 : (k : Int) < (len : Int) := by omega
        have i3 : (k : Int) < 60 := by omega
        clear hn hs
        go_wp2_with fail
        go_region
        obtain ⟨c, hcc⟩ : ∃ c, s.extract 0 n = c := ⟨_, rfl⟩
        rw [hcc] at HE ⊢
        clear hcc hmin hmin2 hn1 hn0 hc
        have hF0 : IsF wr.drew b vw (cut (toL wh)).2.2 (cut (toL wh)).2.1 := HFB.out.1.below ((Below.refl _ _).drew)
        have hB0 : Below w.heap.size w wr.drew := HFB.out.2.drew
        clear HFB
        generalize wr.drew = w4 at *
        have HWH : Hid (wh.size ≤ k * 5000) := hwh
        have hcl := cut_left _ (toL wh) (Nat.le_refl _)
        rw [toL_len] at hcl
        have HLL : Hid ((cut (toL wh)).2.2.length + c.size ≤ 400000) := by show _ ≤ _; have := HE.out; have := HWH.out; have := hcl.1; omega
        have HWC : Hid ((wh ++ c).size ≤ (k + 1) * 5000) := by show _ ≤ _; rw [ByteArray.size_append]; have := HE.out; have := HWH.out; omega
        have hz1 : ¬ 9223372036854775807 < wh.size + c.size := by have := HE.out; have := HWH.out; omega
        have HST2 : Hid (cut (toL (wh ++ c)) = ((cut (toL wh)).1 ++ (putR (cut (toL wh)).2.2 (cut (toL wh)).2.1 (toL c)).1, (putR (cut (toL wh)).2.2 (cut (toL wh)).2.1 (toL c)).2)) := by
          show _ = _
          rw [toL_append]
          exact cut_step _ _
        clear hwh hcl
        obtain ⟨R, hR⟩ : ∃ R, putR (cut (toL wh)).2.2 (cut (toL wh)).2.1 (toL c) = R := ⟨_, rfl⟩
        rw [hR] at HST2
        have HR := Lib.hid hR
        clear hR
        obtain ⟨A0, hA0⟩ : ∃ A0, (cut (toL wh)).1 = A0 := ⟨_, rfl⟩
        rw [hA0] at HST2 ⊢
        clear hA0
        have hput := put_any b vw _ _ c w4 hF0 HLL.out
        rw [HR.out] at hput
        have hlb4 := hF0.lt
        clear hF0 HLL HR
        go_wp2_with fail
        refine hput.mono ?_
        clear hput
        rintro e w5 ⟨va, vw5, he, hr5, hF5, hbt5, _⟩
        obtain ⟨R1, q, l5⟩ := R
        obtain ⟨x1, x2, x3, hvd⟩ : ∃ x1 x2 x3, vd q = .agg #[.int .i64 x1, .int .u8 x2, .int .u8 x3] := ⟨_, _, _, rfl⟩
        have he' : e = .returned (.tuple #[va, .agg #[.int .i64 x1, .int .u8 x2, .int .u8 x3]]) := by rw [he]; show Ending.returned (.tuple #[va, vd q]) = _; rw [hvd]
        subst he'
        have hra := hr5.rd
        obtain ⟨aa, ca, rfl⟩ := own_form hr5
        have hB5 : Below w.heap.size w w5 := hB0.trans (hbt5.below hbb hB0.size)
        have HVD := Lib.hid hvd
        have hal5 : Below w5.heap.size w5 (w5.alloc (.cells #[.int .i64 x1, .int .u8 x2, .int .u8 x3] 34)) := (Below.refl _ _).alloc (Nat.le_refl _) _
        have hra5 := hra.below hal5
        have hF5a := hF5.below hal5
        have hB5a := hB5.alloc hB5.size (.cells #[.int .i64 x1, .int .u8 x2, .int .u8 x3] 34)
        have hq9 := heap_alloc_new w5 (.cells #[.int .i64 x1, .int .u8 x2, .int .u8 x3] 34)
        clear he hvd hr5 hra hF5 hB5 hal5 hbt5 hB0 hlb4
        go_simp
        go_wp2_with fail
        obtain ⟨p9, hp9⟩ : ∃ p9, w5.heap.size = p9 := ⟨_, rfl⟩
        rw [hp9] at hq9 ⊢
        clear hp9
        generalize w5.alloc (.cells #[.int .i64 x1, .int .u8 x2, .int .u8 x3] 34) = w5a at *
        refine (all_any (wh ++ c) w5a (by have := HWC.out; omega)).mono ?_
        rintro e w6 ⟨vf, he, hr6, hb6⟩
        have he' : e = .returned (.tuple #[vf, .agg #[.int .i64 x1, .int .u8 x2, .int .u8 x3], .int .i64 (l5.length : Nat)]) := by
          rw [he, HST2.out]
          show Ending.returned (.tuple #[vf, vd q, .int .i64 (l5.length : Nat)]) = _
          rw [HVD.out]
        subst he'
        rw [HST2.out] at hr6
        have hrf := hr6.rd
        have hal6 : Below w6.heap.size w6 (w6.alloc (.cells #[.int .i64 x1, .int .u8 x2, .int .u8 x3] 34)) := (Below.refl _ _).alloc (Nat.le_refl _) _
        have hb6a : Below w5a.heap.size w5a (w6.alloc (.cells #[.int .i64 x1, .int .u8 x2, .int .u8 x3] 34)) := hb6.alloc hb6.size _
        have hrfa := hrf.below hal6
        have hraa := hra5.below hb6a
        have hF6 := hF5a.below hb6a
        have hB6 := hB5a.trans (hb6a.mono hB5a.size)
        have hq9a := (hb6a.block _ (lt_of_block hq9)).trans hq9
        have hq11 := heap_alloc_new w6 (.cells #[.int .i64 x1, .int .u8 x2, .int .u8 x3] 34)
        have hform : (vf = .slice none 0 0 ∧ A0.length + R1.length = 0) ∨ ∃ g cap, vf = .slice (some ⟨g, 0, none⟩) (A0.length + R1.length) cap ∧ A0.length + R1.length ≤ cap := by
          have h2 := hr6.2
          rw [List.length_append] at h2
          rcases h2 with h | ⟨g, cap, cur, h, _, _, hn, _⟩
          · exact .inl h
          · exact .inr ⟨g, cap, h, hn⟩
        clear he hr6 hrf hal6 hb6 hb6a hra5 hF5a hB5a hq9
        have HRA := Lib.hid hraa
        have HRF := Lib.hid hrfa
        have HF6 := Lib.hid hF6
        have HB6 := Lib.hid hB6
        have HQ9 := Lib.hid hq9a
        have HQ11 := Lib.hid hq11
        clear hraa hrfa hF6 hB6 hq9a hq11
        go_simp
        have hT1 : ((A0.length : Nat) : Int) ≤ ((A0.length + R1.length : Nat) : Int) := by omega
        rcases hform with ⟨rfl, hz⟩ | ⟨g, cap', rfl, hgc⟩
        · have hA : A0 = [] := List.eq_nil_of_length_eq_zero (by omega)
          have hR1 : R1 = [] := List.eq_nil_of_length_eq_zero (by omega)
          subst hA hR1
          clear hz
          go_wp2_with fail
          obtain ⟨p11, hp11⟩ : ∃ p11, w6.heap.size = p11 := ⟨_, rfl⟩
          rw [hp11] at HQ11 ⊢
          clear hp11
          generalize w6.alloc (.cells #[.int .i64 x1, .int .u8 x2, .int .u8 x3] 34) = w6a at *
          refine (same_eq _ _ [] _ HRA.out HRF.out).mono ?_
          rintro e w7 ⟨rfl, hst7⟩
          have hk9 := (hst7.blk p9).trans HQ9.out
          have hk11 := (hst7.blk p11).trans HQ11.out
          have u0 : w7.cell? ⟨p9, 0, none⟩ = some (.int .i64 x1) := cell_of_row _ _ _ _ _ _ hk9
          have u1 : w7.cell? ⟨p9, 1, none⟩ = some (.int .u8 x2) := cell_of_row _ _ _ _ _ _ hk9
          have u2' : w7.cell? ⟨p9, 2, none⟩ = some (.int .u8 x3) := cell_of_row _ _ _ _ _ _ hk9
          have v0 : w7.cell? ⟨p11, 0, none⟩ = some (.int .i64 x1) := cell_of_row _ _ _ _ _ _ hk11
          have v1 : w7.cell? ⟨p11, 1, none⟩ = some (.int .u8 x2) := cell_of_row _ _ _ _ _ _ hk11
          have v2 : w7.cell? ⟨p11, 2, none⟩ = some (.int .u8 x3) := cell_of_row _ _ _ _ _ _ hk11
          have hF7 := HF6.out.below hst7.below
          have HF7 := Lib.hid hF7
          have HB7 := Lib.hid (HB6.out.trans hst7.below)
          clear hk9 hk11 hst7 hF7
          go_wp2_with fail
          refine (left_any b _ _ _ _ HF7.out).mono ?_
          rintro e w8 ⟨rfl, rfl⟩
          go_wp2_with fail
          go_roundw
          case rel => exact ⟨k + 1, wh ++ c, _, rfl, by rw [HST2.out]; simp, by go_num, by omega, by omega, HWC.out, ⟨by rw [HST2.out]; exact HF7.out, HB7.out⟩⟩
          case measure => simp [intOf]; omega
        · obtain ⟨A, hA⟩ : ∃ A, (if cap' = A0.length then (some (⟨g, 0, none⟩ : Addr)) else some ⟨g, A0.length * 2, none⟩) = some A := by split <;> exact ⟨_, rfl⟩
          have hfrom := FRd.from HRF.out (by rw [List.length_append]) (T := A0.length) (by rw [List.length_append]; omega) hA hgc
          rw [List.drop_left, Nat.add_sub_cancel_left] at hfrom
          have HFR := Lib.hid hfrom
          have hn0 : (0 : Int) ≤ (A0.length : Int) := by omega
          have hn1 : (A0.length : Int) ≤ ((A0.length + R1.length : Nat) : Int) := by omega
          clear hfrom
          go_wp2_with fail
          obtain ⟨p11, hp11⟩ : ∃ p11, w6.heap.size = p11 := ⟨_, rfl⟩
          rw [hp11] at HQ11 ⊢
          clear hp11
          generalize w6.alloc (.cells #[.int .i64 x1, .int .u8 x2, .int .u8 x3] 34) = w6a at *
          refine (same_eq _ _ R1 _ HRA.out HFR.out).mono ?_
          rintro e w7 ⟨rfl, hst7⟩
          have hk9 := (hst7.blk p9).trans HQ9.out
          have hk11 := (hst7.blk p11).trans HQ11.out
          have u0 : w7.cell? ⟨p9, 0, none⟩ = some (.int .i64 x1) := cell_of_row _ _ _ _ _ _ hk9
          have u1 : w7.cell? ⟨p9, 1, none⟩ = some (.int .u8 x2) := cell_of_row _ _ _ _ _ _ hk9
          have u2' : w7.cell? ⟨p9, 2, none⟩ = some (.int .u8 x3) := cell_of_row _ _ _ _ _ _ hk9
          have v0 : w7.cell? ⟨p11, 0, none⟩ = some (.int .i64 x1) := cell_of_row _ _ _ _ _ _ hk11
          have v1 : w7.cell? ⟨p11, 1, none⟩ = some (.int .u8 x2) := cell_of_row _ _ _ _ _ _ hk11
          have v2 : w7.cell? ⟨p11, 2, none⟩ = some (.int .u8 x3) := cell_of_row _ _ _ _ _ _ hk11
          have hF7 := HF6.out.below hst7.below
          have HF7 := Lib.hid hF7
          have HB7 := Lib.hid (HB6.out.trans hst7.below)
          clear hk9 hk11 hst7 hF7
          go_wp2_with fail
          refine (left_any b _ _ _ _ HF7.out).mono ?_
          rintro e w8 ⟨rfl, rfl⟩
          go_wp2_with fail
          go_roundw
          case rel => exact ⟨k + 1, wh ++ c, _, rfl, by rw [HST2.out]; simp, by go_num, by omega, by omega, HWC.out, ⟨by rw [HST2.out]; exact HF7.out, HB7.out⟩⟩
          case measure => simp [intOf]; omega
      · have HB := Lib.hid HFB.out.2
        have i3 : (60 : Int) ≤ (k : Int) := by omega
        clear HFB
        go_wp2_with fail
        refine (works_any _).mono ?_
        rintro e w3 ⟨rfl, hb3⟩
        have hbw3 := HB.out.trans (hb3.mono HB.out.size)
        clear hb3
        go_wp2_with fail
        go_ret
        exact ⟨rfl, hbw3⟩
    · have HB := Lib.hid HFB.out.2
      clear HFB
      go_wp2_with fail
      refine (works_any _).mono ?_
      rintro e w3 ⟨rfl, hb3⟩
      have hbw3 := HB.out.trans (hb3.mono HB.out.size)
      clear hb3
      go_wp2_with fail
      go_ret
      exact ⟨rfl, hbw3⟩
end Go.Proofs.Ytcbkmafekkhpiaa
