/- frame: Put, a stream that is not broken. -/
import Derived.Test.YtcbkmafekkhpiaaFD
import Derived.Deep.LoopGhost
import Derived.Deep.CutRange
import Derived.Deep.CutBlock
import Derived.Deep.DeepCutAuto
namespace Go.Proofs.Ytcbkmafekkhpiaa
open Go.RowKit
set_option linter.unusedVariables false

def row0 (vw : Value) : Array Value := #[.bool true, vw, .int .i64 0, .int .u8 0, .int .u8 0]

set_option maxHeartbeats 4000000 in
set_option maxRecDepth 10000 in
theorem put_good (b : Nat) (vw : Value) (l : List UInt8) (s : ByteArray) (w : World) (h : IsF w b vw l 0) (hz : l.length + s.size ≤ 400000) : Calls Try.prog 12 #[.pointer (some ⟨b, 0, none⟩), .string s] w (PutPost w b (cut (l ++ toL s))) := by
  have z := fun w => zeroV w
  have hal : Below w.heap.size w (w.alloc (.cells #[.int .i64 0, .int .u8 0, .int .u8 0] 34)) := (Below.refl _ _).alloc (Nat.le_refl _) _
  have hF : IsF (w.alloc (.cells #[.int .i64 0, .int .u8 0, .int .u8 0] 34)) b vw l 0 := h.below hal
  have H := Lib.hid hF
  have HAL := Lib.hid hal
  have hg0 := heap_alloc_new w (.cells #[.int .i64 0, .int .u8 0, .int .u8 0] 34)
  have hbw := h.lt
  have HZ := Lib.hid hz
  have HWS : Hid (w.heap.size < (w.alloc (.cells #[.int .i64 0, .int .u8 0, .int .u8 0] 34)).heap.size) := by show _ < _; simp
  clear hF h hal hz
  go_enter Try.func12, Try.ntmps12
  go_wp2_with fail
  generalize hW : w.alloc (.cells #[.int .i64 0, .int .u8 0, .int .u8 0] 34) = W at *
  have hblk : W.heap[b]? = some (.cells (row0 vw) 50 (0, 0)) := H.out.blk
  have c1 : W.cell? ⟨b, 1, none⟩ = some vw := cell_of_row _ _ _ _ _ _ hblk
  have c2 : W.cell? ⟨b, 2, none⟩ = some (.int .i64 0) := cell_of_row _ _ _ _ _ _ hblk
  have HG0 := Lib.hid hg0
  have HBLK := Lib.hid hblk
  clear hblk hg0 hW
  refine (none_any b _ _ 0 _ H.out).mono ?_
  rintro e w' ⟨rfl, rfl⟩
  go_upto_region 5 with fail
  go_cut [6] (fun v6 wx => BRd wx v6 (l ++ toL s) ∧ Below W.heap.size W wx ∧ (∀ g, v6.ownBlock = some g → g ≠ b ∧ g < wx.heap.size))
  case first =>
    rcases H.out.rd with ⟨rfl, rfl⟩ | ⟨g, cap, rfl, k1, k2, k3, k4⟩
    · go_still_tail 16, (by kernel_rfl)
      refine wpList_appendS (w := W.drew) rfl (.tmp 40) (.tmp 41) rfl (.slice none 0 0) [] s rfl rfl (.inl ⟨rfl, rfl⟩) (by have := HZ.out; omega) ?_
      intro v' w9 hB hbel hown
      have HR : Hid (BRd w9 v' ([] ++ toL s) ∧ Below W.heap.size W w9 ∧ (∀ g, v'.ownBlock = some g → g ≠ b ∧ g < w9.heap.size)) := ⟨hB, (Below.refl W.heap.size W).drew.trans hbel, fun g hg => by
        refine ⟨?_, (hown g hg).2⟩
        rcases (hown g hg).1 with h | h
        · cases h
        · have := H.out.lt; have h2 : W.heap.size ≤ g := h; omega⟩
      clear hB hbel hown
      go_wp2
      go_meet
      exact HR.out
    · have k1c : (l.length : Int) ≤ (cap : Int) := by omega
      go_still_tail 16, (by kernel_rfl)
      refine wpList_appendS (w := W.drew) rfl (.tmp 40) (.tmp 41) rfl (.slice (some ⟨g, 0, none⟩) l.length l.length) l s rfl rfl (.inr ⟨g, rfl, k3, k4⟩) (by have := HZ.out; omega) ?_
      intro v' w9 hB hbel hown
      have HR : Hid (BRd w9 v' (l ++ toL s) ∧ Below W.heap.size W w9 ∧ (∀ g, v'.ownBlock = some g → g ≠ b ∧ g < w9.heap.size)) := ⟨hB, (Below.refl W.heap.size W).drew.trans hbel, fun g' hg => by
        refine ⟨?_, (hown g' hg).2⟩
        rcases (hown g' hg).1 with h | h
        · exact (H.out.own g' h).2
        · have := H.out.lt; have h2 : W.heap.size ≤ g' := h; omega⟩
      clear hB hbel hown
      go_wp2
      go_meet
      exact HR.out
  case rest =>
    obtain ⟨hB, hbel, hob⟩ := hcut
    have HB := Lib.hid hB
    have HBEL := Lib.hid hbel
    have HOB := Lib.hid hob
    clear hB hbel hob
    have HTOT : Hid ((l ++ toL s).length ≤ 400000) := by show _ ≤ _; rw [List.length_append, toL_len]; exact HZ.out
    obtain ⟨T, hT⟩ : ∃ T, l ++ toL s = T := ⟨_, rfl⟩
    have HT := Lib.hid hT
    rw [hT] at HB HTOT
    clear hT
    have HWC : Hid (W.heap.size ≤ wc.heap.size) := HBEL.out.size
    go_wp2_with fail
    go_loopw [6, 7] (fun vb out wr => ∃ (lb : List UInt8) (L : List Fr), BRd wr vb lb ∧ (∀ g, vb.ownBlock = some g → g ≠ b ∧ g < wc.heap.size) ∧ Hid (cut T = (L ++ (cut lb).1, (cut lb).2) ∧ L.length * 19 + lb.length ≤ T.length) ∧ FRow wr wc.heap.size out L ∧ wc.heap.size ≤ wr.heap.size ∧ Hid (wr.heap[b]? = some (.cells (row0 vw) 50 (0, 0)) ∧ But b W wr)) (fun vb _ _ => sliceLen vb)
    case atStart => exact ⟨T, [], HB.out, HOB.out, ⟨by simp, by simp⟩, FRow.nil _ _, Nat.le_refl _, (HBEL.out.block _ H.out.lt).trans HBLK.out, But.of_below HBEL.out⟩
    case round =>
      obtain ⟨lb, L, hB, hob, HCL, hown, hwcr, HRB⟩ := hrel
      have HWR := Lib.hid hwcr
      obtain ⟨vb, rfl⟩ : ∃ o, o = u6 := ⟨_, rfl⟩
      obtain ⟨out, rfl⟩ : ∃ o, o = u7 := ⟨_, rfl⟩
      have HCUT := Lib.hid HCL.out.1
      have HLEN := Lib.hid HCL.out.2
      have HOW := Lib.hid hown
      have HBR := Lib.hid hB
      have HOBR := Lib.hid hob
      have HROW := Lib.hid HRB.out.1
      have HBT := Lib.hid HRB.out.2
      clear HCL hown hB hob HRB HB HOB HBEL hwcr
      by_cases h19 : 19 ≤ lb.length
      · obtain ⟨ao, cap, g, off, hvb, k1, k2, k3, k4⟩ := HBR.out
        subst hvb
        obtain ⟨rfl, hg⟩ := k3 (by omega)
        have K4 := Lib.hid k4
        have j1 : (19 : Int) ≤ (lb.length : Int) := by omega
        have j2 : (19 : Int) ≤ (cap : Int) := by omega
        have j3 : (18 : Int) < (lb.length : Int) := by omega
        have j4 : (lb.length : Int) ≤ (cap : Int) := by omega
        have H19 := Lib.hid h19
        have HC := Lib.hid k1
        clear k3 k4 h19 k1
        go_wp2_with fail
        refine (judge_any _ (lb.take 19) _ (BRd.take HBR.out H19.out) (by have := H19.out; simp; omega)).mono ?_
        rintro e w5 ⟨rfl, hb5⟩
        rw [sub_take _ H19.out]
        have hbsz := HBT.out.size
        have HROW5 : Hid (w5.heap[b]? = some (.cells (row0 vw) 50 (0, 0))) := (hb5.block _ (lt_of_block HROW.out)).trans HROW.out
        have HBT5 : Hid (But b W w5) := HBT.out.trans (But.of_below hb5)
        have HOW5 : Hid (FRow w5 wc.heap.size out L) := HOW.out.below hb5
        have HWR5 : Hid (wc.heap.size ≤ w5.heap.size) := Nat.le_trans HWR.out hb5.size
        have HBR5 : Hid (BRd w5 (.slice (some ⟨g, off, none⟩) lb.length cap) lb) := HBR.out.below hb5
        clear hb5 hbsz HROW HBT HOW HBR hg
        have b1 : w5.cell? ⟨b, 1, none⟩ = some vw := cell_of_row _ _ _ _ _ _ HROW5.out
        have f1 := frozen_of_row _ _ 1 _ _ HROW5.out
        have b2 : w5.cell? ⟨b, 2, none⟩ = some (.int .i64 0) := cell_of_row _ _ _ _ _ _ HROW5.out
        have b3 : w5.cell? ⟨b, 3, none⟩ = some (.int .u8 0) := cell_of_row _ _ _ _ _ _ HROW5.out
        have b4 : w5.cell? ⟨b, 4, none⟩ = some (.int .u8 0) := cell_of_row _ _ _ _ _ _ HROW5.out
        have f2 := frozen_of_row _ _ 2 _ _ HROW5.out
        have f3 := frozen_of_row _ _ 3 _ _ HROW5.out
        have f4 := frozen_of_row _ _ 4 _ _ HROW5.out
        obtain ⟨q, hq⟩ : ∃ q, subL lb = q := ⟨_, rfl⟩
        rw [hq]
        by_cases hq0 : q = 0
        · subst hq0
          have HQ := Lib.hid hq
          clear hq
          rw [show vd 0 = .agg #[.int .i64 0, .int .u8 0, .int .u8 0] from rfl]
          go_wp2_with fail
          have hrow6 : (((w5.setCell ⟨b, 2, none⟩ (.int .i64 0)).setCell ⟨b, 3, none⟩ (.int .u8 0)).setCell ⟨b, 4, none⟩ (.int .u8 0)).heap[b]? = some (.cells (row0 vw) 50 (0, 0)) := set_heap (i := 4) (v := .int .u8 0) (set_heap (i := 3) (v := .int .u8 0) (set_heap (i := 2) (v := .int .i64 0) HROW5.out))
          have hbt6 : But b W (((w5.setCell ⟨b, 2, none⟩ (.int .i64 0)).setCell ⟨b, 3, none⟩ (.int .u8 0)).setCell ⟨b, 4, none⟩ (.int .u8 0)) := (((HBT5.out.setCell 2 _).setCell 3 _).setCell 4 _)
          have hother : ∀ g, g ≠ b → (((w5.setCell ⟨b, 2, none⟩ (.int .i64 0)).setCell ⟨b, 3, none⟩ (.int .u8 0)).setCell ⟨b, 4, none⟩ (.int .u8 0)).heap[g]? = w5.heap[g]? := fun g hg => by
            rw [heap_setCell_other _ _ _ _ hg, heap_setCell_other _ _ _ _ hg, heap_setCell_other _ _ _ _ hg]
          have how6 : FRow (((w5.setCell ⟨b, 2, none⟩ (.int .i64 0)).setCell ⟨b, 3, none⟩ (.int .u8 0)).setCell ⟨b, 4, none⟩ (.int .u8 0)) wc.heap.size out L := own_keep HOW5.out fun g hg => hother g (by have h1 := own_ge HOW5.out g hg; have h2 := H.out.lt; have h3 := HWC.out; omega)
          have hwr6 : wc.heap.size ≤ (((w5.setCell ⟨b, 2, none⟩ (.int .i64 0)).setCell ⟨b, 3, none⟩ (.int .u8 0)).setCell ⟨b, 4, none⟩ (.int .u8 0)).heap.size := by simpa using HWR5.out
          have hbr6 : BRd (((w5.setCell ⟨b, 2, none⟩ (.int .i64 0)).setCell ⟨b, 3, none⟩ (.int .u8 0)).setCell ⟨b, 4, none⟩ (.int .u8 0)) (.slice (some ⟨g, off, none⟩) lb.length cap) lb := HBR5.out.keep fun g' hg' _ => hother g' (HOBR.out g' hg').1
          generalize (((w5.setCell ⟨b, 2, none⟩ (.int .i64 0)).setCell ⟨b, 3, none⟩ (.int .u8 0)).setCell ⟨b, 4, none⟩ (.int .u8 0)) = w6 at *
          have HROW6 := Lib.hid hrow6
          have HBT6 := Lib.hid hbt6
          have HOW6 := Lib.hid how6
          have HBR6 := Lib.hid hbr6
          have HWR6 := Lib.hid hwr6
          clear hrow6 hbt6 how6 hbr6 hwr6 hother b1 b2 b3 b4 f1 f2 f3 f4 HROW5 HBT5 HOW5 HBR5
          refine (long_any _ lb _ HBR6.out H19.out).mono ?_
          rintro e w7 ⟨rfl, m7, rfl⟩
          obtain ⟨n, hn⟩ : ∃ n, longL lb = n := ⟨_, rfl⟩
          have hng := long_ge HQ.out
          rw [hn] at hng ⊢
          have HN := Lib.hid hn
          have HNG := Lib.hid hng
          clear hn hng
          have HROW7 : Hid ((w6.drewN m7).heap[b]? = some (.cells (row0 vw) 50 (0, 0))) := HROW6.out
          have HBT7 : Hid (But b W (w6.drewN m7)) := ⟨HBT6.out.os, HBT6.out.tape, HBT6.out.output, HBT6.out.size, HBT6.out.block⟩
          have HOW7 : Hid (FRow (w6.drewN m7) wc.heap.size out L) := HOW6.out.keep fun _ _ => rfl
          have HWR7 : Hid (wc.heap.size ≤ (w6.drewN m7).heap.size) := HWR6.out
          have HBR7 : Hid (BRd (w6.drewN m7) (.slice (some ⟨g, off, none⟩) lb.length cap) lb) := HBR6.out.keep fun _ _ _ => rfl
          clear HROW6 HBT6 HOW6 HBR6
          generalize w6.drewN m7 = w7 at *
          by_cases hlt : lb.length < n
          · have i2 : (lb.length : Int) < (n : Int) := by omega
            have hcut : cut lb = ([], 0, lb) := cut_wait H19.out HQ.out (by rw [HN.out]; exact hlt)
            clear hlt
            obtain ⟨avb, capb, hvbe⟩ : ∃ avb capb, (Value.slice (some ⟨g, off, none⟩) lb.length cap) = .slice avb lb.length capb := by
              obtain ⟨ao, cap, g, off, e, _⟩ := HBR7.out
              exact ⟨_, _, e⟩
            have hrow := HROW7.out
            have c0 : w7.cell? ⟨b, 1, none⟩ = some vw := cell_of_row _ _ _ _ _ _ hrow
            have f0 := frozen_of_row _ _ 1 _ _ hrow
            have hbl := lt_of_block hrow
            have hlm : lb.length ≤ 400000 := by have := HLEN.out; have := HTOT.out; omega
            have HLM : Hid (lb.length ≤ 1000000) := by show _ ≤ _; omega
            have hX : ∀ (Z : Array Value) (g : Nat), g < w7.heap.size → g ≠ b → ((w7.setCell ⟨b, 1, none⟩ (.slice (some ⟨w7.heap.size, 0, none⟩) lb.length lb.length)).alloc (.cells Z 5)).heap[g]? = w7.heap[g]? := fun Z g hg hn => by
              rw [Below.heap_alloc _ _ _ (by simpa using hg), heap_setCell_other _ _ _ _ hn]
            have HBX : Hid (∀ Z : Array Value, BRd ((w7.setCell ⟨b, 1, none⟩ (.slice (some ⟨w7.heap.size, 0, none⟩) lb.length lb.length)).alloc (.cells Z 5)) (Value.slice (some ⟨g, off, none⟩) lb.length cap) lb) := fun Z => BRd.keep HBR7.out fun g hg hlt => hX Z g hlt (HOBR.out g hg).1
            have HNX : Hid (∀ Z : Array Value, ((w7.setCell ⟨b, 1, none⟩ (.slice (some ⟨w7.heap.size, 0, none⟩) lb.length lb.length)).alloc (.cells Z 5)).heap[w7.heap.size]? = some (.cells Z 5 (0, 0))) := fun Z => by
              have := heap_alloc_new (w7.setCell ⟨b, 1, none⟩ (.slice (some ⟨w7.heap.size, 0, none⟩) lb.length lb.length)) (.cells Z 5)
              simpa using this
            have HRX : Hid (∀ Z : Array Value, ((w7.setCell ⟨b, 1, none⟩ (.slice (some ⟨w7.heap.size, 0, none⟩) lb.length lb.length)).alloc (.cells Z 5)).heap[b]? = some (.cells (row0 (.slice (some ⟨w7.heap.size, 0, none⟩) lb.length lb.length)) 50 (0, 0))) := fun Z => by
              rw [Below.heap_alloc _ _ _ (by simpa using hbl)]
              exact set_heap hrow
            have hpw : w.heap.size < w7.heap.size := by have := HWS.out; have := HBT7.out.size; omega
            have HPX : Hid (∀ Z : Array Value, ((w7.setCell ⟨b, 1, none⟩ (.slice (some ⟨w7.heap.size, 0, none⟩) lb.length lb.length)).alloc (.cells Z 5)).heap[w.heap.size]? = some (.cells #[.int .i64 0, .int .u8 0, .int .u8 0] 34 (0, 0))) := fun Z => (hX Z _ hpw (by omega)).trans ((HBT7.out.block _ HWS.out (by omega)).trans HG0.out)
            have HOX : Hid (∀ Z : Array Value, FRow ((w7.setCell ⟨b, 1, none⟩ (.slice (some ⟨w7.heap.size, 0, none⟩) lb.length lb.length)).alloc (.cells Z 5)) wc.heap.size out L) := fun Z => FRow.keep HOW7.out fun g hg => hX Z g (own_lt HOW7.out g hg) (by have := own_ge HOW7.out g hg; have := H.out.lt; have := HWC.out; omega)
            have HTX : Hid (∀ Z : Array Value, But b W ((w7.setCell ⟨b, 1, none⟩ (.slice (some ⟨w7.heap.size, 0, none⟩) lb.length lb.length)).alloc (.cells Z 5))) := fun Z => (HBT7.out.setCell 1 _).alloc _
            have HSX : Hid (W.heap.size ≤ w7.heap.size) := HBT7.out.size
            clear hrow hX
            rw [hvbe] at HBX
            injection hvbe with hv1 hv2 hv3
            rw [← hv1, ← hv3] at HBX
            clear hv1 hv2 hv3
            go_wp2_with (first
              | (refine wpList_make43 rfl (.tmp 89) (.tmp 89) rfl lb.length rfl rfl HLM.out ?_; intro Z hZ; have HZS := Lib.hid hZ; clear hZ)
              | (refine wpList_copy43 rfl (.tmp 96) (.tmp 97) rfl w7.heap.size (.slice (some ⟨g, off, none⟩) lb.length cap) lb rfl rfl Z HZS.out (HNX.out Z) (HBX.out Z) ?_; intro w9 hbt9 hnew9 hsz9; have hp9 := (hbt9.block w.heap.size (by simp; omega) (by omega)).trans (HPX.out Z); have p0 : w9.cell? ⟨w.heap.size, 0, none⟩ = some (.int .i64 0) := cell_of_row _ _ _ _ _ _ hp9; have p1 : w9.cell? ⟨w.heap.size, 1, none⟩ = some (.int .u8 0) := cell_of_row _ _ _ _ _ _ hp9; have p2 : w9.cell? ⟨w.heap.size, 2, none⟩ = some (.int .u8 0) := cell_of_row _ _ _ _ _ _ hp9; have g0 := frozen_of_row _ _ 0 _ _ hp9; have g1 := frozen_of_row _ _ 1 _ _ hp9; have g2 := frozen_of_row _ _ 2 _ _ hp9; have HP9 := Lib.hid hp9; have HBT9 := Lib.hid hbt9; have HNEW9 := Lib.hid hnew9; clear hp9 hbt9 hnew9))
            have hR := set3 (a' := .int .i64 0) (b' := .int .u8 0) (c' := .int .u8 0) HP9.out
            have hother : ∀ g, g ≠ w.heap.size → (((w9.setCell ⟨w.heap.size, 0, none⟩ (.int .i64 0)).setCell ⟨w.heap.size, 1, none⟩ (.int .u8 0)).setCell ⟨w.heap.size, 2, none⟩ (.int .u8 0)).heap[g]? = w9.heap[g]? := fun g hg => by
              rw [heap_setCell_other _ _ _ _ hg, heap_setCell_other _ _ _ _ hg, heap_setCell_other _ _ _ _ hg]
            have HPP : Hid (PutPost w b (cut (l ++ toL s)) (.returned (.tuple #[out, .agg #[.int .i64 0, .int .u8 0, .int .u8 0]])) (((w9.setCell ⟨w.heap.size, 0, none⟩ (.int .i64 0)).setCell ⟨w.heap.size, 1, none⟩ (.int .u8 0)).setCell ⟨w.heap.size, 2, none⟩ (.int .u8 0))) := by
              rw [HT.out, HCUT.out, hcut]
              have hsx := HSX.out
              have hws := HWS.out
              refine ⟨out, .slice (some ⟨w7.heap.size, 0, none⟩) lb.length lb.length, rfl, ?_, ⟨?_, ?_, ?_, fun h => absurd rfl h⟩, ?_, fun _ g hg => by simp [Value.ownBlock] at hg; omega⟩
              · rw [List.append_nil]
                refine own_mono (own_keep (own_keep (HOX.out Z) fun g hg => ?_) fun g hg => hother g ?_) (by have := HWC.out; omega)
                · have h1 := own_ge (HOX.out Z) g hg
                  have h2 := own_lt HOW7.out g hg
                  exact HBT9.out.block g (by simp; omega) (by omega)
                · have h1 := own_ge (HOX.out Z) g hg
                  have := HWC.out; omega
              · exact (hother b (by omega)).trans ((HBT9.out.block b (by simp; omega) (by omega)).trans (HRX.out Z))
              · refine .inr ⟨w7.heap.size, lb.length, rfl, Nat.le_refl _, by unfold maxLen; have := HLM.out; omega, by simp [hsz9], fun i hi => ?_⟩
                rw [cell_of_row _ _ _ _ _ _ ((hother _ (by omega)).trans HNEW9.out), ← bcells_at lb i hi]
                simp
              · intro g hg
                simp [Value.ownBlock] at hg
                subst hg
                exact ⟨by simp [hsz9], by omega⟩
              · have h1 := (But.of_below HAL.out).trans (HTX.out Z)
                refine ⟨HBT9.out.os.trans h1.os, HBT9.out.tape.trans h1.tape, HBT9.out.output.trans h1.output, by have := h1.size; have := HBT9.out.size; simp at *; omega, fun k hk hn => ?_⟩
                have hX1 := HBT9.out.block k (by have := h1.size; simp at *; omega) (by omega)
                exact (hother k (by omega)).trans (hX1.trans (h1.block k hk hn))
            have r0 := cell_of_row _ _ 0 _ _ _ hR
            have r1 := cell_of_row _ _ 1 _ _ _ hR
            have r2 := cell_of_row _ _ 2 _ _ _ hR
            exact bodyPost_ret (v := .tuple #[out, .agg #[.int .i64 0, .int .u8 0, .int .u8 0]]) (by simp [results, Try.results12, go_sem, r0, r1, r2]) rfl HPP.out
          · have i2 : (n : Int) ≤ (lb.length : Int) := by omega
            have i3 : (n : Int) ≤ (cap : Int) := by omega
            have i4 : (19 : Int) ≤ (n : Int) := Int.ofNat_le.2 HNG.out.1
            have hcut := cut_more H19.out HQ.out (by rw [HN.out]; omega)
            rw [HN.out] at hcut
            have k18 : w7.cell? ⟨g, off + 18, none⟩ = some (.int .u8 (bt lb 18 : Nat)) := by
              obtain ⟨ao', cap', g', off', e, h1, h2, h3, h4⟩ := HBR7.out
              injection e with e1 e2 e3
              obtain ⟨e4, _⟩ := h3 (by have := H19.out; omega)
              rw [← e1] at e4
              injection e4 with e4
              injection e4 with e5 e6
              rw [e5, e6]
              exact h4 18 (by have := H19.out; omega)
            obtain ⟨k, hk⟩ : ∃ k, bt lb 18 = k := ⟨_, rfl⟩
            have hk256 := bt_lt lb 18
            rw [hk] at k18 hcut hk256
            have a18 := w8 k hk256
            have a18b := w8b k hk256
            clear hk hk256
            have hd19 := BRd.drop (n := 19) (BRd.take (n := n) HBR7.out (by omega)) (by simp; have := HNG.out; omega)
            have hdn := BRd.drop (n := n) HBR7.out (by omega)
            obtain ⟨A, hA⟩ : ∃ A, (if cap = 19 then (some (⟨g, off, none⟩ : Addr)) else some ⟨g, off + 19, none⟩) = some A := by split <;> exact ⟨_, rfl⟩
            obtain ⟨A2, hA2⟩ : ∃ A2, (if cap = n then (some (⟨g, off, none⟩ : Addr)) else some ⟨g, off + n, none⟩) = some A2 := by split <;> exact ⟨_, rfl⟩
            rw [hA] at hd19
            rw [hA2] at hdn
            have hAb : A.block = g := by
              split at hA <;> injection hA with hA <;> rw [← hA]
            have hA2b : A2.block = g := by
              split at hA2 <;> injection hA2 with hA2 <;> rw [← hA2]
            have hgl : g < w7.heap.size := by
              have := (HOBR.out g rfl).2
              have := HWR7.out
              omega
            have k18al : ((w7.alloc (.cells #[.int .i64 (k : Int), .string (mkS ((lb.take n).drop 19))] 23)).drew).cell? ⟨g, off + 18, none⟩ = some (.int .u8 (k : Nat)) := ((Below.refl w7.heap.size w7).alloc (Nat.le_refl _) _).cell hgl |>.trans k18
            have HGL : Hid (g < ((w7.alloc (.cells #[.int .i64 (k : Int), .string (mkS ((lb.take n).drop 19))] 23)).drew).heap.size) := by show _ < _; simp; omega
            have HGO : Hid (some g ≠ out.ownBlock) := fun h => by
              have h1 := own_ge HOW7.out g h.symm
              have h2 := (HOBR.out g rfl).2
              omega
            have c1 : (convert 43 9 (.slice (some A) (n - 19) (cap - 19))).run Try.prog w7.drew = .ok (.string (mkS ((lb.take n).drop 19))) w7.drew := BRd.string hd19 rfl
            have HDN := Lib.hid hdn
            have HA2B := Lib.hid hA2b
            clear hd19 hdn hAb hA2b
            go_wp2_with fail
            go_region_law (refine step_pushF rfl (.tmp 72) (.tmp 82) rfl wc.heap.size out L (by simp [Act.eval]) (by first | exact HOW7.out.below (((Below.refl _ _).drew).alloc (Nat.le_refl _) _) | exact HOW7.out.below (((Below.refl _ _).alloc (Nat.le_refl _) _).drew)) w7.heap.size (k, (lb.take n).drop 19) (by simp [Act.eval]) (by exact heap_alloc_new _ _) (by have := HLEN.out; have := HTOT.out; omega) (by have := HWR7.out; simp; omega) ?_; intro v' w9 hown9 hgrow9)
            all_goals (
              have hbel9 : Below wc.heap.size w7 w9 := ((Below.refl wc.heap.size w7).drew.alloc HWR7.out _).grown hgrow9 (by have := HWR7.out; simp; omega) (own_ge HOW7.out)
              have hbw9 : b < wc.heap.size := by have := H.out.lt; have := HWC.out; omega
              have HBR9 : Hid (BRd w9 (.slice (some A2) (lb.length - n) (cap - n)) (lb.drop n)) := HDN.out.keep fun g' hg' _ => hbel9.block g' (by
                have h1 := (HOBR.out g rfl).2
                have h2 := HA2B.out
                simp [Value.ownBlock] at hg'
                omega)
              have HOB9 : Hid (∀ g', (Value.slice (some A2) (lb.length - n) (cap - n)).ownBlock = some g' → g' ≠ b ∧ g' < wc.heap.size) := fun g' hg' => by
                have h1 := HOBR.out g rfl
                have h2 := HA2B.out
                simp [Value.ownBlock] at hg'
                rw [← hg', h2]
                exact h1
              have HROW9 : Hid (w9.heap[b]? = some (.cells (row0 vw) 50 (0, 0)) ∧ But b W w9) := ⟨(hbel9.block b hbw9).trans HROW7.out, ⟨hbel9.os.trans HBT7.out.os, hbel9.tape.trans HBT7.out.tape, hbel9.output.trans HBT7.out.output, Nat.le_trans HBT7.out.size hbel9.size, fun k hk hn => (hbel9.block k (by have := HWC.out; omega)).trans (HBT7.out.block k hk hn)⟩⟩
              have HWR9 : Hid (wc.heap.size ≤ w9.heap.size) := Nat.le_trans HWR7.out hbel9.size
              have HOW9 := Lib.hid hown9
              have HCL9 : Hid (cut T = ((L ++ [(k, (lb.take n).drop 19)]) ++ (cut (lb.drop n)).1, (cut (lb.drop n)).2) ∧ (L ++ [(k, (lb.take n).drop 19)]).length * 19 + (lb.drop n).length ≤ T.length) := by
                refine ⟨by rw [HCUT.out, hcut]; simp, ?_⟩
                have h1 := HLEN.out
                have h2 := HNG.out
                rw [List.length_append, List.length_drop]
                simp
                omega
              clear hbel9 hown9 hgrow9 hcut c1 k18 k18al HGL HGO
              go_wp2_with fail
              go_roundw
              case rel => exact ⟨lb.drop n, _, HBR9.out, HOB9.out, HCL9.out, HOW9.out, HWR9.out, HROW9.out⟩
              case measure => have := HNG.out; have := H19.out; simp [sliceLen]; omega)
        · have hcut : cut lb = ([], q, []) := by rw [cut_bad H19.out (by rw [hq]; exact hq0), hq]
          have hvd : vd q = .agg #[.int .i64 3, .int .u8 1, .int .u8 (q : Int)] := by unfold vd; rw [if_neg hq0, if_neg hq0]
          have HVD := Lib.hid hvd
          have HQ0 := Lib.hid hq0
          rw [hvd]
          clear hq hvd hq0
          go_wp2_with fail
          have hrow6 : ((((w5.setCell ⟨b, 2, none⟩ (.int .i64 3)).setCell ⟨b, 3, none⟩ (.int .u8 1)).setCell ⟨b, 4, none⟩ (.int .u8 (q : Int))).setCell ⟨b, 1, none⟩ (.slice none 0 0)).heap[b]? = some (.cells #[.bool true, .slice none 0 0, .int .i64 3, .int .u8 1, .int .u8 (q : Int)] 50 (0, 0)) := set_heap (i := 1) (set_heap (i := 4) (set_heap (i := 3) (set_heap (i := 2) HROW5.out)))
          have hbt6 : But b W ((((w5.setCell ⟨b, 2, none⟩ (.int .i64 3)).setCell ⟨b, 3, none⟩ (.int .u8 1)).setCell ⟨b, 4, none⟩ (.int .u8 (q : Int))).setCell ⟨b, 1, none⟩ (.slice none 0 0)) := (((HBT5.out.setCell 2 _).setCell 3 _).setCell 4 _).setCell 1 _
          have how6 : FRow ((((w5.setCell ⟨b, 2, none⟩ (.int .i64 3)).setCell ⟨b, 3, none⟩ (.int .u8 1)).setCell ⟨b, 4, none⟩ (.int .u8 (q : Int))).setCell ⟨b, 1, none⟩ (.slice none 0 0)) wc.heap.size out L := own_keep HOW5.out fun g hg => by
            have h1 := own_ge HOW5.out g hg
            have h3 := HWC.out
            have h2 := H.out.lt
            rw [heap_setCell_other _ _ _ _ (by show g ≠ b; omega), heap_setCell_other _ _ _ _ (by show g ≠ b; omega), heap_setCell_other _ _ _ _ (by show g ≠ b; omega), heap_setCell_other _ _ _ _ (by show g ≠ b; omega)]
          generalize ((((w5.setCell ⟨b, 2, none⟩ (.int .i64 3)).setCell ⟨b, 3, none⟩ (.int .u8 1)).setCell ⟨b, 4, none⟩ (.int .u8 (q : Int))).setCell ⟨b, 1, none⟩ (.slice none 0 0)) = w6 at *
          have HROW6 := Lib.hid hrow6
          have HBT6 := Lib.hid hbt6
          have HOW6 := Lib.hid how6
          have hg6 : w6.heap[w.heap.size]? = some (.cells #[.int .i64 0, .int .u8 0, .int .u8 0] 34 (0, 0)) := (hbt6.block _ HWS.out (by omega)).trans HG0.out
          have d2 : w6.cell? ⟨b, 2, none⟩ = some (.int .i64 3) := cell_of_row _ _ _ _ _ _ hrow6
          have d3 : w6.cell? ⟨b, 3, none⟩ = some (.int .u8 1) := cell_of_row _ _ _ _ _ _ hrow6
          have d4 : w6.cell? ⟨b, 4, none⟩ = some (.int .u8 (q : Int)) := cell_of_row _ _ _ _ _ _ hrow6
          have p0 : w6.cell? ⟨w.heap.size, 0, none⟩ = some (.int .i64 0) := cell_of_row _ _ _ _ _ _ hg6
          have p1 : w6.cell? ⟨w.heap.size, 1, none⟩ = some (.int .u8 0) := cell_of_row _ _ _ _ _ _ hg6
          have p2 : w6.cell? ⟨w.heap.size, 2, none⟩ = some (.int .u8 0) := cell_of_row _ _ _ _ _ _ hg6
          have g0 := frozen_of_row _ _ 0 _ _ hg6
          have g1 := frozen_of_row _ _ 1 _ _ hg6
          have g2 := frozen_of_row _ _ 2 _ _ hg6
          have HG6 := Lib.hid hg6
          clear hrow6 hbt6 how6 hg6 b1 b2 b3 b4 f1 f2 f3 f4
          go_region
          have HP : Hid (PutPost w b (cut (l ++ toL s)) (.returned (.tuple #[out, .agg #[.int .i64 3, .int .u8 1, .int .u8 (q : Int)]])) (((w6.setCell ⟨w.heap.size, 0, none⟩ (.int .i64 3)).setCell ⟨w.heap.size, 1, none⟩ (.int .u8 1)).setCell ⟨w.heap.size, 2, none⟩ (.int .u8 (q : Int))).drew) := by
            rw [HT.out, HCUT.out, hcut]
            have hother : ∀ g, g ≠ w.heap.size → ((((w6.setCell ⟨w.heap.size, 0, none⟩ (.int .i64 3)).setCell ⟨w.heap.size, 1, none⟩ (.int .u8 1)).setCell ⟨w.heap.size, 2, none⟩ (.int .u8 (q : Int))).drew).heap[g]? = w6.heap[g]? := fun g hg => by
              show (((w6.setCell ⟨w.heap.size, 0, none⟩ _).setCell ⟨w.heap.size, 1, none⟩ _).setCell ⟨w.heap.size, 2, none⟩ _).heap[g]? = _
              rw [heap_setCell_other _ _ _ _ hg, heap_setCell_other _ _ _ _ hg, heap_setCell_other _ _ _ _ hg]
            refine ⟨out, .slice none 0 0, ?_, ?_, ⟨?_, .inl ⟨rfl, rfl⟩, (fun g hg => by cases hg), fun _ => rfl⟩, ?_, fun _ g hg => by cases hg⟩
            · show _ = Ending.returned (.tuple #[_, vd q]); rw [HVD.out]
            · rw [List.append_nil]
              refine own_mono (own_keep HOW6.out fun g hg => hother g (by have := own_ge HOW6.out g hg; have := HWS.out; have := HWC.out; omega)) (by have := HWS.out; have := HWC.out; omega)
            · show _ = some (Obj.cells #[_, _, .int .i64 (if q = 0 then 0 else 3), .int .u8 (if q = 0 then 0 else 1), _] 50 (0, 0))
              rw [if_neg HQ0.out, if_neg HQ0.out, hother b (by omega)]
              exact HROW6.out
            · have h1 := (But.of_below HAL.out).trans HBT6.out
              exact ⟨h1.os, h1.tape, h1.output, by simpa using h1.size, fun k hk hn => (hother k (by omega)).trans (h1.block k hk hn)⟩
          have hR : ((((w6.setCell ⟨w.heap.size, 0, none⟩ (.int .i64 3)).setCell ⟨w.heap.size, 1, none⟩ (.int .u8 1)).setCell ⟨w.heap.size, 2, none⟩ (.int .u8 (q : Int))).drew).heap[w.heap.size]? = some (.cells #[.int .i64 3, .int .u8 1, .int .u8 (q : Int)] 34 (0, 0)) := set3 HG6.out
          generalize (((w6.setCell ⟨w.heap.size, 0, none⟩ (.int .i64 3)).setCell ⟨w.heap.size, 1, none⟩ (.int .u8 1)).setCell ⟨w.heap.size, 2, none⟩ (.int .u8 (q : Int))).drew = w9 at *
          have r0 := cell_of_row _ _ 0 _ _ _ hR
          have r1 := cell_of_row _ _ 1 _ _ _ hR
          have r2 := cell_of_row _ _ 2 _ _ _ hR
          clear hR hcut HCUT
          go_wp2_with fail
          exact bodyPost_ret (v := .tuple #[out, .agg #[.int .i64 3, .int .u8 1, .int .u8 (q : Int)]]) (by simp [results, Try.results12, go_sem, r0, r1, r2]) rfl HP.out
      · have i1 : (lb.length : Int) < 19 := by omega
        have hcut : cut lb = ([], 0, lb) := cut_short (by omega)
        clear h19
        obtain ⟨avb, capb, hvbe⟩ : ∃ avb capb, vb = .slice avb lb.length capb := by
          obtain ⟨ao, cap, g, off, e, _⟩ := HBR.out
          exact ⟨_, _, e⟩
        have hrow := HROW.out
        have c0 : wr.cell? ⟨b, 1, none⟩ = some vw := cell_of_row _ _ _ _ _ _ hrow
        have f0 := frozen_of_row _ _ 1 _ _ hrow
        have hbl := lt_of_block hrow
        have hlm : lb.length ≤ 400000 := by have := HLEN.out; have := HTOT.out; omega
        have HLM : Hid (lb.length ≤ 1000000) := by show _ ≤ _; omega
        have hX : ∀ (Z : Array Value) (g : Nat), g < wr.heap.size → g ≠ b → ((wr.setCell ⟨b, 1, none⟩ (.slice (some ⟨wr.heap.size, 0, none⟩) lb.length lb.length)).alloc (.cells Z 5)).heap[g]? = wr.heap[g]? := fun Z g hg hn => by
          rw [Below.heap_alloc _ _ _ (by simpa using hg), heap_setCell_other _ _ _ _ hn]
        have HBX : Hid (∀ Z : Array Value, BRd ((wr.setCell ⟨b, 1, none⟩ (.slice (some ⟨wr.heap.size, 0, none⟩) lb.length lb.length)).alloc (.cells Z 5)) vb lb) := fun Z => BRd.keep HBR.out fun g hg hlt => hX Z g hlt (HOBR.out g hg).1
        have HNX : Hid (∀ Z : Array Value, ((wr.setCell ⟨b, 1, none⟩ (.slice (some ⟨wr.heap.size, 0, none⟩) lb.length lb.length)).alloc (.cells Z 5)).heap[wr.heap.size]? = some (.cells Z 5 (0, 0))) := fun Z => by
          have := heap_alloc_new (wr.setCell ⟨b, 1, none⟩ (.slice (some ⟨wr.heap.size, 0, none⟩) lb.length lb.length)) (.cells Z 5)
          simpa using this
        have HRX : Hid (∀ Z : Array Value, ((wr.setCell ⟨b, 1, none⟩ (.slice (some ⟨wr.heap.size, 0, none⟩) lb.length lb.length)).alloc (.cells Z 5)).heap[b]? = some (.cells (row0 (.slice (some ⟨wr.heap.size, 0, none⟩) lb.length lb.length)) 50 (0, 0))) := fun Z => by
          rw [Below.heap_alloc _ _ _ (by simpa using hbl)]
          exact set_heap hrow
        have hpw : w.heap.size < wr.heap.size := by have := HWS.out; have := HBT.out.size; omega
        have HPX : Hid (∀ Z : Array Value, ((wr.setCell ⟨b, 1, none⟩ (.slice (some ⟨wr.heap.size, 0, none⟩) lb.length lb.length)).alloc (.cells Z 5)).heap[w.heap.size]? = some (.cells #[.int .i64 0, .int .u8 0, .int .u8 0] 34 (0, 0))) := fun Z => (hX Z _ hpw (by omega)).trans ((HBT.out.block _ HWS.out (by omega)).trans HG0.out)
        have HOX : Hid (∀ Z : Array Value, FRow ((wr.setCell ⟨b, 1, none⟩ (.slice (some ⟨wr.heap.size, 0, none⟩) lb.length lb.length)).alloc (.cells Z 5)) wc.heap.size out L) := fun Z => FRow.keep HOW.out fun g hg => hX Z g (own_lt HOW.out g hg) (by have := own_ge HOW.out g hg; have := H.out.lt; have := HWC.out; omega)
        have HTX : Hid (∀ Z : Array Value, But b W ((wr.setCell ⟨b, 1, none⟩ (.slice (some ⟨wr.heap.size, 0, none⟩) lb.length lb.length)).alloc (.cells Z 5))) := fun Z => (HBT.out.setCell 1 _).alloc _
        have HSX : Hid (W.heap.size ≤ wr.heap.size) := HBT.out.size
        clear hrow hX
        rw [hvbe] at HBX ⊢
        clear hvbe
        go_wp2_with (first
          | (refine wpList_make43 rfl (.tmp 89) (.tmp 89) rfl lb.length rfl rfl HLM.out ?_; intro Z hZ; have HZS := Lib.hid hZ; clear hZ)
          | (refine wpList_copy43 rfl (.tmp 96) (.tmp 97) rfl wr.heap.size (.slice avb lb.length capb) lb rfl rfl Z HZS.out (HNX.out Z) (HBX.out Z) ?_; intro w9 hbt9 hnew9 hsz9; have hp9 := (hbt9.block w.heap.size (by simp; omega) (by omega)).trans (HPX.out Z); have p0 : w9.cell? ⟨w.heap.size, 0, none⟩ = some (.int .i64 0) := cell_of_row _ _ _ _ _ _ hp9; have p1 : w9.cell? ⟨w.heap.size, 1, none⟩ = some (.int .u8 0) := cell_of_row _ _ _ _ _ _ hp9; have p2 : w9.cell? ⟨w.heap.size, 2, none⟩ = some (.int .u8 0) := cell_of_row _ _ _ _ _ _ hp9; have g0 := frozen_of_row _ _ 0 _ _ hp9; have g1 := frozen_of_row _ _ 1 _ _ hp9; have g2 := frozen_of_row _ _ 2 _ _ hp9; have HP9 := Lib.hid hp9; have HBT9 := Lib.hid hbt9; have HNEW9 := Lib.hid hnew9; clear hp9 hbt9 hnew9))
        have hR := set3 (a' := .int .i64 0) (b' := .int .u8 0) (c' := .int .u8 0) HP9.out
        have hother : ∀ g, g ≠ w.heap.size → (((w9.setCell ⟨w.heap.size, 0, none⟩ (.int .i64 0)).setCell ⟨w.heap.size, 1, none⟩ (.int .u8 0)).setCell ⟨w.heap.size, 2, none⟩ (.int .u8 0)).heap[g]? = w9.heap[g]? := fun g hg => by
          rw [heap_setCell_other _ _ _ _ hg, heap_setCell_other _ _ _ _ hg, heap_setCell_other _ _ _ _ hg]
        have HPP : Hid (PutPost w b (cut (l ++ toL s)) (.returned (.tuple #[out, .agg #[.int .i64 0, .int .u8 0, .int .u8 0]])) (((w9.setCell ⟨w.heap.size, 0, none⟩ (.int .i64 0)).setCell ⟨w.heap.size, 1, none⟩ (.int .u8 0)).setCell ⟨w.heap.size, 2, none⟩ (.int .u8 0))) := by
          rw [HT.out, HCUT.out, hcut]
          have hsx := HSX.out
          have hws := HWS.out
          refine ⟨out, .slice (some ⟨wr.heap.size, 0, none⟩) lb.length lb.length, rfl, ?_, ⟨?_, ?_, ?_, fun h => absurd rfl h⟩, ?_, fun _ g hg => by simp [Value.ownBlock] at hg; omega⟩
          · rw [List.append_nil]
            refine own_mono (own_keep (own_keep (HOX.out Z) fun g hg => ?_) fun g hg => hother g ?_) (by have := HWC.out; omega)
            · have h1 := own_ge (HOX.out Z) g hg
              have h2 := own_lt HOW.out g hg
              exact HBT9.out.block g (by simp; omega) (by omega)
            · have h1 := own_ge (HOX.out Z) g hg
              have := HWC.out; omega
          · exact (hother b (by omega)).trans ((HBT9.out.block b (by simp; omega) (by omega)).trans (HRX.out Z))
          · refine .inr ⟨wr.heap.size, lb.length, rfl, Nat.le_refl _, by unfold maxLen; have := HLM.out; omega, by simp [hsz9], fun i hi => ?_⟩
            rw [cell_of_row _ _ _ _ _ _ ((hother _ (by omega)).trans HNEW9.out), ← bcells_at lb i hi]
            simp
          · intro g hg
            simp [Value.ownBlock] at hg
            subst hg
            exact ⟨by simp [hsz9], by omega⟩
          · have h1 := (But.of_below HAL.out).trans (HTX.out Z)
            refine ⟨HBT9.out.os.trans h1.os, HBT9.out.tape.trans h1.tape, HBT9.out.output.trans h1.output, by have := h1.size; have := HBT9.out.size; simp at *; omega, fun k hk hn => ?_⟩
            have hX1 := HBT9.out.block k (by have := h1.size; simp at *; omega) (by omega)
            exact (hother k (by omega)).trans (hX1.trans (h1.block k hk hn))
        have r0 := cell_of_row _ _ 0 _ _ _ hR
        have r1 := cell_of_row _ _ 1 _ _ _ hR
        have r2 := cell_of_row _ _ 2 _ _ _ hR
        exact bodyPost_ret (v := .tuple #[out, .agg #[.int .i64 0, .int .u8 0, .int .u8 0]]) (by simp [results, Try.results12, go_sem, r0, r1, r2]) rfl HPP.out
end Go.Proofs.Ytcbkmafekkhpiaa
