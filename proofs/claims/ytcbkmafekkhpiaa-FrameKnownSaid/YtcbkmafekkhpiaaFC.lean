/- heraldref09: All. -/
import Derived.Test.YtcbkmafekkhpiaaFR
namespace Go.Proofs.Ytcbkmafekkhpiaa
open Go.RowKit
set_option linter.unusedVariables false

def AllPost (w : World) (l : List UInt8) (r : Ending) (w' : World) : Prop :=
  ∃ vf, r = .returned (.tuple #[vf, vd (cut l).2.1, .int .i64 ((cut l).2.2.length : Nat)]) ∧ FRow w' w.heap.size vf (cut l).1 ∧ Below w.heap.size w w'
def strSize : Value → Nat
  | .string s => s.size
  | _ => 0

set_option maxHeartbeats 4000000 in
theorem all_any (s0 : ByteArray) (w : World) (hl : s0.size ≤ 400000) : Calls Try.prog 13 #[.string s0] w (AllPost w (toL s0)) := by
  have z := fun w => zeroV w
  have HL0 := Lib.hid hl
  clear hl
  go_enter Try.func13, Try.ntmps13
  go_wp2_with fail
  have HAL : Hid (Below w.heap.size w (w.alloc (.cells #[.int .i64 0, .int .u8 0, .int .u8 0] 34))) := (Below.refl _ _).alloc (Nat.le_refl _) _
  have HG0 := Lib.hid (heap_alloc_new w (.cells #[.int .i64 0, .int .u8 0, .int .u8 0] 34))
  have HWS : Hid (w.heap.size < (w.alloc (.cells #[.int .i64 0, .int .u8 0, .int .u8 0] 34)).heap.size) := by show _ < _; simp
  generalize w.alloc (.cells #[.int .i64 0, .int .u8 0, .int .u8 0] 34) = W at *
  go_loopw [0, 5] (fun s out wr => ∃ (sb : ByteArray) (L : List Fr), s = .string sb ∧ sb.size ≤ s0.size ∧ Hid (cut (toL s0) = (L ++ (cut (toL sb)).1, (cut (toL sb)).2) ∧ L.length * 19 + sb.size ≤ s0.size) ∧ FRow wr W.heap.size out L ∧ Below W.heap.size W wr) (fun s _ _ => strSize s)
  case atStart => exact ⟨s0, [], rfl, Nat.le_refl _, ⟨by simp, by simp⟩, FRow.nil _ _, Below.refl _ _⟩
  case round =>
    obtain ⟨sb, L, rfl, hsb, HCL, hown, hbel⟩ := hrel
    have HCUT := Lib.hid HCL.out.1
    have HLEN := Lib.hid HCL.out.2
    have HOW := Lib.hid hown
    have HB := Lib.hid hbel
    have HBW : Hid (Below w.heap.size w wr) := HAL.out.trans (hbel.mono (Nat.le_of_lt HWS.out))
    have HGR : Hid (wr.heap[w.heap.size]? = some (.cells #[.int .i64 0, .int .u8 0, .int .u8 0] 34 (0, 0))) := (hbel.block _ HWS.out).trans HG0.out
    clear HCL hown hbel hsb
    obtain ⟨out, rfl⟩ : ∃ o, o = u5 := ⟨_, rfl⟩
    by_cases h19 : 19 ≤ sb.size
    · have i1 : (19 : Int) ≤ (sb.size : Int) := by omega
      have H19 := Lib.hid h19
      have hxs : (sb.extract 0 19).size = 19 := by rw [ByteArray.size_extract]; omega
      have HXS := Lib.hid hxs
      have HXL : Hid (toL (sb.extract 0 19) = (toL sb).take 19) := by show _ = _; rw [toL_extract]; simp
      have HLB : Hid (19 ≤ (toL sb).length) := by show _ ≤ _; rw [toL_len]; exact h19
      clear h19 hxs
      go_wp2_with fail
      refine (wrong_any _ _ (by rw [HXS.out]; exact Nat.le_refl _)).mono ?_
      rintro e w5 ⟨rfl, hb5⟩
      rw [HXL.out, sub_take _ HLB.out]
      have HB5 : Hid (Below W.heap.size W w5) := HB.out.trans (hb5.mono HB.out.size)
      have HBW5 : Hid (Below w.heap.size w w5) := HBW.out.trans (hb5.mono HBW.out.size)
      have HOW5 : Hid (FRow w5 W.heap.size out L) := HOW.out.below hb5
      have HG5 : Hid (w5.heap[w.heap.size]? = some (.cells #[.int .i64 0, .int .u8 0, .int .u8 0] 34 (0, 0))) := (hb5.block _ (by have := HB.out.size; have := HWS.out; omega)).trans HGR.out
      clear hb5 HB HBW HOW HGR HXS HXL
      obtain ⟨q, hq⟩ : ∃ q, subL (toL sb) = q := ⟨_, rfl⟩
      rw [hq]
      by_cases hq0 : q = 0
      · subst hq0
        have HQ := Lib.hid hq
        clear hq
        rw [show vd 0 = .agg #[.int .i64 0, .int .u8 0, .int .u8 0] from rfl]
        have e16 := at_bt sb 16 (by have := HLB.out; rw [toL_len] at this; omega)
        have e17 := at_bt sb 17 (by have := HLB.out; rw [toL_len] at this; omega)
        have e18 := at_bt sb 18 (by have := HLB.out; rw [toL_len] at this; omega)
        obtain ⟨n, hn⟩ : ∃ n, longL (toL sb) = n := ⟨_, rfl⟩
        have hng := long_ge HQ.out
        rw [hn] at hng
        obtain ⟨k, hk⟩ : ∃ k, bt (toL sb) 18 = k := ⟨_, rfl⟩
        have hb16 := bt_lt (toL sb) 16
        have hb17 := bt_lt (toL sb) 17
        have hb18 := bt_lt (toL sb) 18
        have hnn : bt (toL sb) 16 * 256 + bt (toL sb) 17 = n := hn
        have HN := Lib.hid hn
        have HK := Lib.hid hk
        rw [hk] at e18 hb18
        generalize bt (toL sb) 16 = b16 at *
        generalize bt (toL sb) 17 = b17 at *
        have a16 := w8 b16 hb16
        have a17 := w8 b17 hb17
        have a18 := w8 k hb18
        have a18b := w8b k hb18
        obtain ⟨am, aa⟩ := long_arith b16 b17 n hb16 hb17 hnn
        have j16 : (16 : Int) < (sb.size : Int) := Int.lt_of_lt_of_le (by decide) i1
        have j17 : (17 : Int) < (sb.size : Int) := Int.lt_of_lt_of_le (by decide) i1
        have j18 : (18 : Int) < (sb.size : Int) := Int.lt_of_lt_of_le (by decide) i1
        have j19 : (19 : Int) ≤ (n : Int) := Int.ofNat_le.2 hng.1
        have HN19 := Lib.hid hng
        clear hn hk hb16 hb17 hb18 hnn hng
        go_wp2_with fail
        go_region
        simp only [a16, a17, am, aa]
        generalize hW6 : (w5.alloc (.cells #[.int .i64 0, .int .u8 0, .int .u8 0] 34)).drew = w6 at *
        have hal6 : Below w5.heap.size w5 w6 := hW6 ▸ ((Below.refl _ _).alloc (Nat.le_refl _) _).drew
        have HB6 : Hid (Below W.heap.size W w6) := HB5.out.trans (hal6.mono HB5.out.size)
        have HBW6 : Hid (Below w.heap.size w w6) := HBW5.out.trans (hal6.mono HBW5.out.size)
        have HOW6 : Hid (FRow w6 W.heap.size out L) := HOW5.out.below hal6
        have HG6 : Hid (w6.heap[w.heap.size]? = some (.cells #[.int .i64 0, .int .u8 0, .int .u8 0] 34 (0, 0))) := (hal6.block _ (by have := HB5.out.size; have := HWS.out; omega)).trans HG5.out
        clear hal6 hW6 HB5 HBW5 HOW5 HG5
        by_cases hw : sb.size < n
        · have i2 : (sb.size : Int) < (n : Int) := by omega
          have hcut : cut (toL sb) = ([], 0, toL sb) := cut_wait HLB.out HQ.out (by rw [HN.out, toL_len]; exact hw)
          clear hw
          have hgx := HG6.out
          have p0 : w6.cell? ⟨w.heap.size, 0, none⟩ = some (.int .i64 0) := by rw [cell_of_row _ _ _ _ _ _ hgx]; rfl
          have p1 : w6.cell? ⟨w.heap.size, 1, none⟩ = some (.int .u8 0) := by rw [cell_of_row _ _ _ _ _ _ hgx]; rfl
          have p2 : w6.cell? ⟨w.heap.size, 2, none⟩ = some (.int .u8 0) := by rw [cell_of_row _ _ _ _ _ _ hgx]; rfl
          have f0 := frozen_of_row _ _ 0 _ _ hgx
          have f1 := frozen_of_row _ _ 1 _ _ hgx
          have f2 := frozen_of_row _ _ 2 _ _ hgx
          have HGX := Lib.hid hgx
          have HP : Hid (AllPost w (toL s0) (.returned (.tuple #[out, .agg #[.int .i64 0, .int .u8 0, .int .u8 0], .int .i64 (sb.size : Nat)])) (((w6.setCell ⟨w.heap.size, 0, none⟩ (.int .i64 0)).setCell ⟨w.heap.size, 1, none⟩ (.int .u8 0)).setCell ⟨w.heap.size, 2, none⟩ (.int .u8 0))) := by
            refine ⟨out, ?_, ?_, set3_below HBW6.out (Nat.le_refl _)⟩
            · rw [HCUT.out]; show _ = _; rw [hcut]; rw [toL_len]; rfl
            · rw [HCUT.out, hcut, List.append_nil]
              refine (own_mono (own_keep HOW6.out fun g hg => ?_) (Nat.le_of_lt HWS.out))
              have h1 := own_ge HOW6.out g hg
              have h2 := HWS.out
              rw [heap_setCell_other _ _ _ _ (by show g ≠ w.heap.size; omega), heap_setCell_other _ _ _ _ (by show g ≠ w.heap.size; omega), heap_setCell_other _ _ _ _ (by show g ≠ w.heap.size; omega)]
          clear hgx hcut HCUT
          go_wp2_with fail
          have hR := set3 (a' := .int .i64 0) (b' := .int .u8 0) (c' := .int .u8 0) HGX.out
          have r0 := cell_of_row _ _ 0 _ _ _ hR
          have r1 := cell_of_row _ _ 1 _ _ _ hR
          have r2 := cell_of_row _ _ 2 _ _ _ hR
          exact bodyPost_ret (v := .tuple #[out, .agg #[.int .i64 0, .int .u8 0, .int .u8 0], .int .i64 (sb.size : Nat)]) (by simp [results, Try.results13, go_sem, r0, r1, r2]) rfl HP.out
        · have i2 : (n : Int) ≤ (sb.size : Int) := by omega
          have hcut := cut_more HLB.out HQ.out (by rw [HN.out, toL_len]; omega)
          rw [HN.out, HK.out] at hcut
          have HF : Hid (toL (sb.extract n sb.size) = (toL sb).drop n) := by
            show _ = _
            rw [toL_extract, ← toL_len, List.take_length]
          have HBO : Hid (mkS (((toL sb).take n).drop 19) = sb.extract 19 n) := by
            show _ = _
            rw [← toL_extract]
            exact mkS_toL _
          have HCUT2 : Hid (cut (toL s0) = ((L ++ [(k, ((toL sb).take n).drop 19)]) ++ (cut (toL (sb.extract n sb.size))).1, (cut (toL (sb.extract n sb.size))).2)) := by
            show _ = _
            rw [HCUT.out, HF.out, hcut]
            simp
          have HSX : Hid ((sb.extract n sb.size).size = sb.size - n) := by show _ = _; rw [ByteArray.size_extract]; omega
          have HLE2 : Hid ((L ++ [(k, ((toL sb).take n).drop 19)]).length * 19 + (sb.extract n sb.size).size ≤ s0.size) := by
            show _ ≤ _
            have h1 := HLEN.out
            have h2 := HN19.out
            rw [HSX.out, List.length_append]
            simp
            omega
          clear hcut hw HCUT
          go_wp2_with fail
          go_region_law (refine step_pushF rfl (.tmp 31) (.tmp 39) rfl W.heap.size out L (by simp [Act.eval]) (by first | exact HOW6.out.below (((Below.refl _ _).drew).alloc (Nat.le_refl _) _) | exact HOW6.out.below (((Below.refl _ _).alloc (Nat.le_refl _) _).drew)) w6.heap.size (k, ((toL sb).take n).drop 19) (by simp [Act.eval]) (by rw [HBO.out]; exact heap_alloc_new _ _) (by have := HLEN.out; have := HL0.out; omega) (by have := HB6.out.size; simp; omega) ?_; intro v' w9 hown9 hgrow9)
          have hb9 : Below W.heap.size w6 w9 := ((Below.refl W.heap.size w6).drew.alloc HB6.out.size _).grown hgrow9 (by have := HB6.out.size; simp; omega) (own_ge HOW6.out)
          have HB9 : Hid (Below W.heap.size W w9) := HB6.out.trans hb9
          have HOW9 := Lib.hid hown9
          clear hb9 hown9 hgrow9 HB6 HBW6 HOW6 HG6
          go_wp2_with fail
          go_roundw
          case rel => exact ⟨_, _, rfl, by have := HLE2.out; omega, ⟨HCUT2.out, HLE2.out⟩, HOW9.out, HB9.out⟩
          case measure => have := HSX.out; have := HN19.out; have := H19.out; simp [strSize]; omega
      · have hcut : cut (toL sb) = ([], q, []) := by rw [cut_bad HLB.out (by rw [hq]; exact hq0), hq]
        have hvd : vd q = .agg #[.int .i64 3, .int .u8 1, .int .u8 (q : Int)] := by unfold vd; rw [if_neg hq0, if_neg hq0]
        have HVD := Lib.hid hvd
        rw [hvd]
        clear hq hvd hq0
        go_wp2_with fail
        generalize hW6 : w5.alloc (.cells #[.int .i64 3, .int .u8 1, .int .u8 (q : Int)] 34) = w6 at *
        have hal6 : Below w5.heap.size w5 w6 := hW6 ▸ ((Below.refl _ _).alloc (Nat.le_refl _) _)
        have hg6 : w6.heap[w.heap.size]? = some (.cells #[.int .i64 0, .int .u8 0, .int .u8 0] 34 (0, 0)) := (hal6.block _ (by have := HB5.out.size; have := HWS.out; omega)).trans HG5.out
        have hn6 : w6.heap[w5.heap.size]? = some (.cells #[.int .i64 3, .int .u8 1, .int .u8 (q : Int)] 34 (0, 0)) := hW6 ▸ heap_alloc_new _ _
        have p0 : w6.cell? ⟨w.heap.size, 0, none⟩ = some (.int .i64 0) := by rw [cell_of_row _ _ _ _ _ _ hg6]; rfl
        have p1 : w6.cell? ⟨w.heap.size, 1, none⟩ = some (.int .u8 0) := by rw [cell_of_row _ _ _ _ _ _ hg6]; rfl
        have p2 : w6.cell? ⟨w.heap.size, 2, none⟩ = some (.int .u8 0) := by rw [cell_of_row _ _ _ _ _ _ hg6]; rfl
        have f0 := frozen_of_row _ _ 0 _ _ hg6
        have f1 := frozen_of_row _ _ 1 _ _ hg6
        have f2 := frozen_of_row _ _ 2 _ _ hg6
        have n0 : w6.cell? ⟨w5.heap.size, 0, none⟩ = some (.int .i64 3) := by rw [cell_of_row _ _ _ _ _ _ hn6]; rfl
        have n1 : w6.cell? ⟨w5.heap.size, 1, none⟩ = some (.int .u8 1) := by rw [cell_of_row _ _ _ _ _ _ hn6]; rfl
        have n2 : w6.cell? ⟨w5.heap.size, 2, none⟩ = some (.int .u8 (q : Int)) := by rw [cell_of_row _ _ _ _ _ _ hn6]; rfl
        have HG6 := Lib.hid hg6
        have HBW6 : Hid (Below w.heap.size w w6) := HBW5.out.trans (hal6.mono HBW5.out.size)
        have HOW6 : Hid (FRow w6 W.heap.size out L) := HOW5.out.below hal6
        clear hg6 hn6 hal6 hW6
        go_region
        have HP : Hid (AllPost w (toL s0) (.returned (.tuple #[out, .agg #[.int .i64 3, .int .u8 1, .int .u8 (q : Int)], .int .i64 0])) (((w6.setCell ⟨w.heap.size, 0, none⟩ (.int .i64 3)).setCell ⟨w.heap.size, 1, none⟩ (.int .u8 1)).setCell ⟨w.heap.size, 2, none⟩ (.int .u8 (q : Int))).drew) := by
          refine ⟨out, ?_, ?_, (set3_below HBW6.out (Nat.le_refl _)).drew⟩
          · rw [HCUT.out, hcut, ← HVD.out]; rfl
          · rw [HCUT.out, hcut, List.append_nil]
            refine (own_mono (own_keep HOW6.out fun g hg => ?_) (Nat.le_of_lt HWS.out))
            have h1 := own_ge HOW6.out g hg
            have h2 := HWS.out
            show (((w6.setCell ⟨w.heap.size, 0, none⟩ _).setCell ⟨w.heap.size, 1, none⟩ _).setCell ⟨w.heap.size, 2, none⟩ _).heap[g]? = _
            rw [heap_setCell_other _ _ _ _ (by show g ≠ w.heap.size; omega), heap_setCell_other _ _ _ _ (by show g ≠ w.heap.size; omega), heap_setCell_other _ _ _ _ (by show g ≠ w.heap.size; omega)]
        have hR : ((((w6.setCell ⟨w.heap.size, 0, none⟩ (.int .i64 3)).setCell ⟨w.heap.size, 1, none⟩ (.int .u8 1)).setCell ⟨w.heap.size, 2, none⟩ (.int .u8 (q : Int))).drew).heap[w.heap.size]? = some (.cells #[.int .i64 3, .int .u8 1, .int .u8 (q : Int)] 34 (0, 0)) := set3 HG6.out
        generalize (((w6.setCell ⟨w.heap.size, 0, none⟩ (.int .i64 3)).setCell ⟨w.heap.size, 1, none⟩ (.int .u8 1)).setCell ⟨w.heap.size, 2, none⟩ (.int .u8 (q : Int))).drew = w9 at *
        have r0 := cell_of_row _ _ 0 _ _ _ hR
        have r1 := cell_of_row _ _ 1 _ _ _ hR
        have r2 := cell_of_row _ _ 2 _ _ _ hR
        clear hR hcut HCUT
        go_wp2_with fail
        exact bodyPost_ret (v := .tuple #[out, .agg #[.int .i64 3, .int .u8 1, .int .u8 (q : Int)], .int .i64 0]) (by simp [results, Try.results13, go_sem, r0, r1, r2]) rfl HP.out
    · have i1 : (sb.size : Int) < 19 := by omega
      have hcut : cut (toL sb) = ([], 0, toL sb) := cut_short (by rw [toL_len]; omega)
      clear h19
      have hgx := HGR.out
      have p0 : wr.cell? ⟨w.heap.size, 0, none⟩ = some (.int .i64 0) := by rw [cell_of_row _ _ _ _ _ _ hgx]; rfl
      have p1 : wr.cell? ⟨w.heap.size, 1, none⟩ = some (.int .u8 0) := by rw [cell_of_row _ _ _ _ _ _ hgx]; rfl
      have p2 : wr.cell? ⟨w.heap.size, 2, none⟩ = some (.int .u8 0) := by rw [cell_of_row _ _ _ _ _ _ hgx]; rfl
      have f0 := frozen_of_row _ _ 0 _ _ hgx
      have f1 := frozen_of_row _ _ 1 _ _ hgx
      have f2 := frozen_of_row _ _ 2 _ _ hgx
      have HGX := Lib.hid hgx
      have HP : Hid (AllPost w (toL s0) (.returned (.tuple #[out, .agg #[.int .i64 0, .int .u8 0, .int .u8 0], .int .i64 (sb.size : Nat)])) (((wr.setCell ⟨w.heap.size, 0, none⟩ (.int .i64 0)).setCell ⟨w.heap.size, 1, none⟩ (.int .u8 0)).setCell ⟨w.heap.size, 2, none⟩ (.int .u8 0))) := by
        refine ⟨out, ?_, ?_, set3_below HBW.out (Nat.le_refl _)⟩
        · rw [HCUT.out]; show _ = _; rw [hcut]; rw [toL_len]; rfl
        · rw [HCUT.out, hcut, List.append_nil]
          refine (own_mono (own_keep HOW.out fun g hg => ?_) (Nat.le_of_lt HWS.out))
          have h1 := own_ge HOW.out g hg
          have h2 := HWS.out
          rw [heap_setCell_other _ _ _ _ (by show g ≠ w.heap.size; omega), heap_setCell_other _ _ _ _ (by show g ≠ w.heap.size; omega), heap_setCell_other _ _ _ _ (by show g ≠ w.heap.size; omega)]
      clear hgx hcut HCUT
      go_wp2_with fail
      have hR := set3 (a' := .int .i64 0) (b' := .int .u8 0) (c' := .int .u8 0) HGX.out
      have r0 := cell_of_row _ _ 0 _ _ _ hR
      have r1 := cell_of_row _ _ 1 _ _ _ hR
      have r2 := cell_of_row _ _ 2 _ _ _ hR
      exact bodyPost_ret (v := .tuple #[out, .agg #[.int .i64 0, .int .u8 0, .int .u8 0], .int .i64 (sb.size : Nat)]) (by simp [results, Try.results13, go_sem, r0, r1, r2]) rfl HP.out
end Go.Proofs.Ytcbkmafekkhpiaa
