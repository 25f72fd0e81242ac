/- heraldref09: Wrong. -/
import Derived.Test.YtcbkmafekkhpiaaFP
namespace Go.Proofs.Ytcbkmafekkhpiaa
open Go.RowKit
set_option linter.unusedVariables false

theorem w64 (n : Int) (h0 : 0 ≤ n) (h1 : n < 10000000) : wrap64 n = n := by unfold wrap64; omega
theorem long_arith (b16 b17 n : Nat) (h1 : b16 < 256) (h2 : b17 < 256) (h : b16 * 256 + b17 = n) : wrap64 ((b16 : Int) * 256) = (b16 : Int) * 256 ∧ wrap64 ((b16 : Int) * 256 + (b17 : Int)) = (n : Int) := by
  constructor <;> unfold wrap64 <;> omega
theorem at_bt (s : ByteArray) (k : Nat) (h : k < s.size) : (s[k]'h).toNat = bt (toL s) k := by
  unfold bt toL
  rw [List.getD_eq_getElem?_getD, List.getElem?_eq_getElem (by rw [Array.length_toList]; exact h)]
  rfl
theorem marks_of {l : List UInt8} (hl : 16 ≤ l.length) (h : ∀ i, i < 16 → bt l i = 255) : marks l = true := by
  unfold marks
  rw [List.all_eq_true]
  intro x hx
  obtain ⟨i, hi, rfl⟩ := List.getElem_of_mem hx
  have hi2 : i < 16 := by simp at hi; omega
  have := h i hi2
  unfold bt at this
  rw [List.getD_eq_getElem?_getD, List.getElem?_eq_getElem (by omega)] at this
  simp only [Option.getD_some] at this
  rw [List.getElem_take, beq_iff_eq]
  exact UInt8.toNat_inj.1 this
theorem marks_not {l : List UInt8} {k : Nat} (hk : k < 16) (hl : 16 ≤ l.length) (h : bt l k ≠ 255) : marks l = false := by
  rw [← Bool.not_eq_true]
  intro hm
  unfold marks at hm
  rw [List.all_eq_true] at hm
  have hlt : k < (l.take 16).length := by simp; omega
  have := hm _ (List.getElem_mem hlt)
  rw [List.getElem_take, beq_iff_eq] at this
  apply h
  unfold bt
  rw [List.getD_eq_getElem?_getD, List.getElem?_eq_getElem (by omega), Option.getD_some, this]
  rfl

set_option maxHeartbeats 4000000 in
theorem wrong_any (s : ByteArray) (w : World) (hl : 19 ≤ s.size) : Calls Try.prog 24 #[.string s] w fun e w' => e = .returned (vd (subL (toL s))) ∧ Below w.heap.size w w' := by
  have z := fun w => zeroV w
  go_enter Try.func24, Try.ntmps24
  go_wp2_with fail
  have HAL : Hid (Below w.heap.size w (w.alloc (.cells #[.int .i64 0, .int .u8 0, .int .u8 0] 34))) := (Below.refl _ _).alloc (Nat.le_refl _) _
  have hg0 := heap_alloc_new w (.cells #[.int .i64 0, .int .u8 0, .int .u8 0] 34)
  have HWS : Hid (w.heap.size < (w.alloc (.cells #[.int .i64 0, .int .u8 0, .int .u8 0] 34)).heap.size) := by show _ < _; simp
  generalize w.alloc (.cells #[.int .i64 0, .int .u8 0, .int .u8 0] 34) = W at *
  have HG0 := Lib.hid hg0
  have HLL : Hid (16 ≤ (toL s).length) := by show _ ≤ _; rw [toL_len]; omega
  clear hg0
  go_loop [3] (fun i => ∃ k : Nat, i = .int .i64 k ∧ k ≤ 16 ∧ Hid (∀ i, i < k → bt (toL s) i = 255)) (fun i => 16 - (intOf i).toNat)
  case atStart => exact ⟨0, rfl, Nat.zero_le _, fun i hi => by omega⟩
  case round =>
    obtain ⟨k, rfl, hk, HM⟩ := hrel
    by_cases hlt : k < 16
    · have i1 : (0 : Int) ≤ (k : Int) := by omega
      have i2 : (k : Int) < 16 := by omega
      have i3 : (k : Int) < (s.size : Int) := by omega
      have e := at_bt s k (by omega)
      obtain ⟨x, hx⟩ : ∃ x, bt (toL s) k = x := ⟨_, rfl⟩
      rw [hx] at e
      by_cases hxe : x = 255
      · have HM2 : Hid (∀ i, i < k + 1 → bt (toL s) i = 255) := by
          intro i hi
          rcases Nat.lt_or_ge i k with h1 | h1
          · exact HM.out i h1
          · obtain rfl : i = k := by omega
            rw [hx, hxe]
        have hxf : ((x : Int) != 255) = false := by simp [hxe]
        clear hxe hx
        go_wp2
        go_round
        case rel => exact ⟨k + 1, by go_num, by omega, HM2⟩
        case measure => simp [intOf]; omega
      · have hs : subL (toL s) = 1 := by unfold subL; rw [if_pos (marks_not (by omega) HLL.out (by rw [hx]; exact hxe))]
        have hxf : ((x : Int) != 255) = true := by simp; omega
        clear hxe hx
        go_wp2_with fail
        refine (reset_any _ _ _).mono ?_
        rintro e w5 ⟨rfl, hb5⟩
        have hg5 : w5.heap[w.heap.size]? = some (.cells #[.int .i64 0, .int .u8 0, .int .u8 0] 34 (0, 0)) := (hb5.block _ HWS.out).trans HG0.out
        have hbel5 : Below w.heap.size w w5 := HAL.out.trans (hb5.mono (Nat.le_of_lt HWS.out))
        have p0 : w5.cell? ⟨w.heap.size, 0, none⟩ = some (.int .i64 0) := by rw [cell_of_row _ _ _ _ _ _ hg5]; rfl
        have p1 : w5.cell? ⟨w.heap.size, 1, none⟩ = some (.int .u8 0) := by rw [cell_of_row _ _ _ _ _ _ hg5]; rfl
        have p2 : w5.cell? ⟨w.heap.size, 2, none⟩ = some (.int .u8 0) := by rw [cell_of_row _ _ _ _ _ _ hg5]; rfl
        have f0 := frozen_of_row _ _ 0 _ _ hg5
        have f1 := frozen_of_row _ _ 1 _ _ hg5
        have f2 := frozen_of_row _ _ 2 _ _ hg5
        have HG5 := Lib.hid hg5
        have HB5 := Lib.hid hbel5
        clear hg5 hbel5
        go_wp2_with fail
        have hR := set3 (a' := .int .i64 3) (b' := .int .u8 1) (c' := .int .u8 1) HG5.out
        have hBl := set3_below (a' := .int .i64 3) (b' := .int .u8 1) (c' := .int .u8 1) HB5.out (Nat.le_refl _)
        have r0 := cell_of_row _ _ 0 _ _ _ hR
        have r1 := cell_of_row _ _ 1 _ _ _ hR
        have r2 := cell_of_row _ _ 2 _ _ _ hR
        exact bodyPost_ret (v := .agg #[.int .i64 3, .int .u8 1, .int .u8 1]) (by simp [results, Try.results24, go_sem, r0, r1, r2]) rfl ⟨by rw [hs]; rfl, hBl⟩
    · obtain rfl : k = 16 := by omega
      clear hlt hk
      have hmt : marks (toL s) = true := marks_of HLL.out HM.out
      have e16 := at_bt s 16 (by omega)
      have e17 := at_bt s 17 (by omega)
      have e18 := at_bt s 18 (by omega)
      obtain ⟨n, hn⟩ : ∃ n, longL (toL s) = n := ⟨_, rfl⟩
      obtain ⟨k, hk⟩ : ∃ k, bt (toL s) 18 = k := ⟨_, rfl⟩
      have HS2 : Hid (subL (toL s) = if n < 19 ∨ 4096 < n then 2 else if k < 1 ∨ 5 < k then 3 else if fitsI k n = false then 2 else 0) := by
        show _ = _
        unfold subL
        rw [hmt, if_neg (by simp), hn, hk]
      have hb16 := bt_lt (toL s) 16
      have hb17 := bt_lt (toL s) 17
      have hb18 := bt_lt (toL s) 18
      have hnn : bt (toL s) 16 * 256 + bt (toL s) 17 = n := hn
      rw [hk] at e18 hb18
      generalize bt (toL s) 16 = b16 at *
      generalize bt (toL s) 17 = b17 at *
      have a16 : wrap64 (b16 : Int) = (b16 : Int) := w64 _ (by omega) (by omega)
      have a17 : wrap64 (b17 : Int) = (b17 : Int) := w64 _ (by omega) (by omega)
      have a18 : wrap64 (k : Int) = (k : Int) := w64 _ (by omega) (by omega)
      obtain ⟨am, aa⟩ := long_arith b16 b17 n hb16 hb17 hnn
      have j16 : (16 : Int) < (s.size : Int) := by omega
      have j17 : (17 : Int) < (s.size : Int) := by omega
      have j18 : (18 : Int) < (s.size : Int) := by omega
      clear hn hk hmt hb16 hb17 hb18 hnn HM
      go_wp2_with fail
      go_region
      obtain ⟨W2, hW2⟩ : ∃ W2, W2 = W.drew := ⟨_, rfl⟩
      rw [← hW2]
      have HG2 : Hid (W2.heap[w.heap.size]? = some (.cells #[.int .i64 0, .int .u8 0, .int .u8 0] 34 (0, 0))) := hW2 ▸ HG0.out
      have HBEL : Hid (Below w.heap.size w W2) := hW2 ▸ HAL.out.drew
      replace HWS : Hid (w.heap.size < W2.heap.size) := hW2 ▸ HWS.out
      clear hW2 HG0 HAL
      by_cases q1 : n < 19
      · have hs : subL (toL s) = 2 := by rw [HS2.out, if_pos (Or.inl q1)]
        have i1 : (n : Int) < 19 := by omega
        clear HS2 q1
        go_wp2_with fail
        refine (reset_any _ _ _).mono ?_
        rintro e w5 ⟨rfl, hb5⟩
        have hg5 : w5.heap[w.heap.size]? = some (.cells #[.int .i64 0, .int .u8 0, .int .u8 0] 34 (0, 0)) := (hb5.block _ HWS.out).trans HG2.out
        have hbel5 : Below w.heap.size w w5 := HBEL.out.trans (hb5.mono (Nat.le_of_lt HWS.out))
        have p0 : w5.cell? ⟨w.heap.size, 0, none⟩ = some (.int .i64 0) := by rw [cell_of_row _ _ _ _ _ _ hg5]; rfl
        have p1 : w5.cell? ⟨w.heap.size, 1, none⟩ = some (.int .u8 0) := by rw [cell_of_row _ _ _ _ _ _ hg5]; rfl
        have p2 : w5.cell? ⟨w.heap.size, 2, none⟩ = some (.int .u8 0) := by rw [cell_of_row _ _ _ _ _ _ hg5]; rfl
        have f0 := frozen_of_row _ _ 0 _ _ hg5
        have f1 := frozen_of_row _ _ 1 _ _ hg5
        have f2 := frozen_of_row _ _ 2 _ _ hg5
        have HG5 := Lib.hid hg5
        have HB5 := Lib.hid hbel5
        clear hg5 hbel5
        go_wp2_with fail
        have hR := set3 (a' := .int .i64 3) (b' := .int .u8 1) (c' := .int .u8 2) HG5.out
        have hBl := set3_below (a' := .int .i64 3) (b' := .int .u8 1) (c' := .int .u8 2) HB5.out (Nat.le_refl _)
        have r0 := cell_of_row _ _ 0 _ _ _ hR
        have r1 := cell_of_row _ _ 1 _ _ _ hR
        have r2 := cell_of_row _ _ 2 _ _ _ hR
        exact bodyPost_ret (v := .agg #[.int .i64 3, .int .u8 1, .int .u8 2]) (by simp [results, Try.results24, go_sem, r0, r1, r2]) rfl ⟨by rw [hs]; rfl, hBl⟩
      · by_cases q2 : 4096 < n
        · have hs : subL (toL s) = 2 := by rw [HS2.out, if_pos (Or.inr q2)]
          have i1 : (19 : Int) ≤ (n : Int) := by omega
          have i2 : (4096 : Int) < (n : Int) := by omega
          clear HS2 q1 q2
          go_wp2_with fail
          refine (reset_any _ _ _).mono ?_
          rintro e w5 ⟨rfl, hb5⟩
          have hg5 : w5.heap[w.heap.size]? = some (.cells #[.int .i64 0, .int .u8 0, .int .u8 0] 34 (0, 0)) := (hb5.block _ HWS.out).trans HG2.out
          have hbel5 : Below w.heap.size w w5 := HBEL.out.trans (hb5.mono (Nat.le_of_lt HWS.out))
          have p0 : w5.cell? ⟨w.heap.size, 0, none⟩ = some (.int .i64 0) := by rw [cell_of_row _ _ _ _ _ _ hg5]; rfl
          have p1 : w5.cell? ⟨w.heap.size, 1, none⟩ = some (.int .u8 0) := by rw [cell_of_row _ _ _ _ _ _ hg5]; rfl
          have p2 : w5.cell? ⟨w.heap.size, 2, none⟩ = some (.int .u8 0) := by rw [cell_of_row _ _ _ _ _ _ hg5]; rfl
          have f0 := frozen_of_row _ _ 0 _ _ hg5
          have f1 := frozen_of_row _ _ 1 _ _ hg5
          have f2 := frozen_of_row _ _ 2 _ _ hg5
          have HG5 := Lib.hid hg5
          have HB5 := Lib.hid hbel5
          clear hg5 hbel5
          go_wp2_with fail
          have hR := set3 (a' := .int .i64 3) (b' := .int .u8 1) (c' := .int .u8 2) HG5.out
          have hBl := set3_below (a' := .int .i64 3) (b' := .int .u8 1) (c' := .int .u8 2) HB5.out (Nat.le_refl _)
          have r0 := cell_of_row _ _ 0 _ _ _ hR
          have r1 := cell_of_row _ _ 1 _ _ _ hR
          have r2 := cell_of_row _ _ 2 _ _ _ hR
          exact bodyPost_ret (v := .agg #[.int .i64 3, .int .u8 1, .int .u8 2]) (by simp [results, Try.results24, go_sem, r0, r1, r2]) rfl ⟨by rw [hs]; rfl, hBl⟩
        · have i1 : (19 : Int) ≤ (n : Int) := by omega
          have i2 : (n : Int) ≤ 4096 := by omega
          rw [if_neg (by omega)] at HS2
          clear q1 q2
          by_cases q3 : k < 1
          · have hs : subL (toL s) = 3 := by rw [HS2.out, if_pos (Or.inl q3)]
            have i3 : (k : Int) < 1 := by omega
            clear HS2 q3
            go_wp2_with fail
            refine (reset_any _ _ _).mono ?_
            rintro e w5 ⟨rfl, hb5⟩
            have hg5 : w5.heap[w.heap.size]? = some (.cells #[.int .i64 0, .int .u8 0, .int .u8 0] 34 (0, 0)) := (hb5.block _ HWS.out).trans HG2.out
            have hbel5 : Below w.heap.size w w5 := HBEL.out.trans (hb5.mono (Nat.le_of_lt HWS.out))
            have p0 : w5.cell? ⟨w.heap.size, 0, none⟩ = some (.int .i64 0) := by rw [cell_of_row _ _ _ _ _ _ hg5]; rfl
            have p1 : w5.cell? ⟨w.heap.size, 1, none⟩ = some (.int .u8 0) := by rw [cell_of_row _ _ _ _ _ _ hg5]; rfl
            have p2 : w5.cell? ⟨w.heap.size, 2, none⟩ = some (.int .u8 0) := by rw [cell_of_row _ _ _ _ _ _ hg5]; rfl
            have f0 := frozen_of_row _ _ 0 _ _ hg5
            have f1 := frozen_of_row _ _ 1 _ _ hg5
            have f2 := frozen_of_row _ _ 2 _ _ hg5
            have HG5 := Lib.hid hg5
            have HB5 := Lib.hid hbel5
            clear hg5 hbel5
            go_wp2_with fail
            have hR := set3 (a' := .int .i64 3) (b' := .int .u8 1) (c' := .int .u8 3) HG5.out
            have hBl := set3_below (a' := .int .i64 3) (b' := .int .u8 1) (c' := .int .u8 3) HB5.out (Nat.le_refl _)
            have r0 := cell_of_row _ _ 0 _ _ _ hR
            have r1 := cell_of_row _ _ 1 _ _ _ hR
            have r2 := cell_of_row _ _ 2 _ _ _ hR
            exact bodyPost_ret (v := .agg #[.int .i64 3, .int .u8 1, .int .u8 3]) (by simp [results, Try.results24, go_sem, r0, r1, r2]) rfl ⟨by rw [hs]; rfl, hBl⟩
          · by_cases q4 : 5 < k
            · have hs : subL (toL s) = 3 := by rw [HS2.out, if_pos (Or.inr q4)]
              have i3 : (1 : Int) ≤ (k : Int) := by omega
              have i4 : (5 : Int) < (k : Int) := by omega
              clear HS2 q3 q4
              go_wp2_with fail
              refine (reset_any _ _ _).mono ?_
              rintro e w5 ⟨rfl, hb5⟩
              have hg5 : w5.heap[w.heap.size]? = some (.cells #[.int .i64 0, .int .u8 0, .int .u8 0] 34 (0, 0)) := (hb5.block _ HWS.out).trans HG2.out
              have hbel5 : Below w.heap.size w w5 := HBEL.out.trans (hb5.mono (Nat.le_of_lt HWS.out))
              have p0 : w5.cell? ⟨w.heap.size, 0, none⟩ = some (.int .i64 0) := by rw [cell_of_row _ _ _ _ _ _ hg5]; rfl
              have p1 : w5.cell? ⟨w.heap.size, 1, none⟩ = some (.int .u8 0) := by rw [cell_of_row _ _ _ _ _ _ hg5]; rfl
              have p2 : w5.cell? ⟨w.heap.size, 2, none⟩ = some (.int .u8 0) := by rw [cell_of_row _ _ _ _ _ _ hg5]; rfl
              have f0 := frozen_of_row _ _ 0 _ _ hg5
              have f1 := frozen_of_row _ _ 1 _ _ hg5
              have f2 := frozen_of_row _ _ 2 _ _ hg5
              have HG5 := Lib.hid hg5
              have HB5 := Lib.hid hbel5
              clear hg5 hbel5
              go_wp2_with fail
              have hR := set3 (a' := .int .i64 3) (b' := .int .u8 1) (c' := .int .u8 3) HG5.out
              have hBl := set3_below (a' := .int .i64 3) (b' := .int .u8 1) (c' := .int .u8 3) HB5.out (Nat.le_refl _)
              have r0 := cell_of_row _ _ 0 _ _ _ hR
              have r1 := cell_of_row _ _ 1 _ _ _ hR
              have r2 := cell_of_row _ _ 2 _ _ _ hR
              exact bodyPost_ret (v := .agg #[.int .i64 3, .int .u8 1, .int .u8 3]) (by simp [results, Try.results24, go_sem, r0, r1, r2]) rfl ⟨by rw [hs]; rfl, hBl⟩
            · have i3 : (1 : Int) ≤ (k : Int) := by omega
              have i4 : (k : Int) ≤ 5 := by omega
              rw [if_neg (by omega)] at HS2
              clear q3 q4
              go_wp2_with fail
              refine (rfits_any _ _ _ i3 i4).mono ?_
              rintro e w6 ⟨he, rfl⟩
              cases hf : fitsI k n with
              | true =>
                rw [hf] at he
                subst he
                have hs : subL (toL s) = 0 := by rw [HS2.out, hf]; rfl
                clear HS2 hf
                have hg5 : W2.heap[w.heap.size]? = some (.cells #[.int .i64 0, .int .u8 0, .int .u8 0] 34 (0, 0)) := HG2.out
                have hbel5 : Below w.heap.size w W2 := HBEL.out
                have p0 : W2.cell? ⟨w.heap.size, 0, none⟩ = some (.int .i64 0) := by rw [cell_of_row _ _ _ _ _ _ hg5]; rfl
                have p1 : W2.cell? ⟨w.heap.size, 1, none⟩ = some (.int .u8 0) := by rw [cell_of_row _ _ _ _ _ _ hg5]; rfl
                have p2 : W2.cell? ⟨w.heap.size, 2, none⟩ = some (.int .u8 0) := by rw [cell_of_row _ _ _ _ _ _ hg5]; rfl
                have f0 := frozen_of_row _ _ 0 _ _ hg5
                have f1 := frozen_of_row _ _ 1 _ _ hg5
                have f2 := frozen_of_row _ _ 2 _ _ hg5
                have HG5 := Lib.hid hg5
                have HB5 := Lib.hid hbel5
                clear hg5 hbel5
                go_wp2_with fail
                have hR := set3 (a' := .int .i64 0) (b' := .int .u8 0) (c' := .int .u8 0) HG5.out
                have hBl := set3_below (a' := .int .i64 0) (b' := .int .u8 0) (c' := .int .u8 0) HB5.out (Nat.le_refl _)
                have r0 := cell_of_row _ _ 0 _ _ _ hR
                have r1 := cell_of_row _ _ 1 _ _ _ hR
                have r2 := cell_of_row _ _ 2 _ _ _ hR
                exact bodyPost_ret (v := .agg #[.int .i64 0, .int .u8 0, .int .u8 0]) (by simp [results, Try.results24, go_sem, r0, r1, r2]) rfl ⟨by rw [hs]; rfl, hBl⟩
              | false =>
                rw [hf] at he
                subst he
                have hs : subL (toL s) = 2 := by rw [HS2.out, hf]; rfl
                clear HS2 hf
                go_wp2_with fail
                refine (reset_any _ _ _).mono ?_
                rintro e w5 ⟨rfl, hb5⟩
                have hg5 : w5.heap[w.heap.size]? = some (.cells #[.int .i64 0, .int .u8 0, .int .u8 0] 34 (0, 0)) := (hb5.block _ HWS.out).trans HG2.out
                have hbel5 : Below w.heap.size w w5 := HBEL.out.trans (hb5.mono (Nat.le_of_lt HWS.out))
                have p0 : w5.cell? ⟨w.heap.size, 0, none⟩ = some (.int .i64 0) := by rw [cell_of_row _ _ _ _ _ _ hg5]; rfl
                have p1 : w5.cell? ⟨w.heap.size, 1, none⟩ = some (.int .u8 0) := by rw [cell_of_row _ _ _ _ _ _ hg5]; rfl
                have p2 : w5.cell? ⟨w.heap.size, 2, none⟩ = some (.int .u8 0) := by rw [cell_of_row _ _ _ _ _ _ hg5]; rfl
                have f0 := frozen_of_row _ _ 0 _ _ hg5
                have f1 := frozen_of_row _ _ 1 _ _ hg5
                have f2 := frozen_of_row _ _ 2 _ _ hg5
                have HG5 := Lib.hid hg5
                have HB5 := Lib.hid hbel5
                clear hg5 hbel5
                go_wp2_with fail
                have hR := set3 (a' := .int .i64 3) (b' := .int .u8 1) (c' := .int .u8 2) HG5.out
                have hBl := set3_below (a' := .int .i64 3) (b' := .int .u8 1) (c' := .int .u8 2) HB5.out (Nat.le_refl _)
                have r0 := cell_of_row _ _ 0 _ _ _ hR
                have r1 := cell_of_row _ _ 1 _ _ _ hR
                have r2 := cell_of_row _ _ 2 _ _ _ hR
                exact bodyPost_ret (v := .agg #[.int .i64 3, .int .u8 1, .int .u8 2]) (by simp [results, Try.results24, go_sem, r0, r1, r2]) rfl ⟨by rw [hs]; rfl, hBl⟩
end Go.Proofs.Ytcbkmafekkhpiaa
