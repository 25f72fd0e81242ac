/- GrOnce: the walk. -/
import Derived.Test.YtbkgipafikeccaaOK0
import Derived.Test.YtbkgipafikeccaaOK1
import Derived.Test.YtbkgipafikeccaaOK2
import Derived.Test.YtbkgipafikeccaaOK3
import Derived.Test.YtbkgipafikeccaaOK4
import Derived.Deep.MidRow
import Derived.Deep.LoopGhost
import Derived.Deep.CutRange
import Derived.Deep.CutBlock
import Derived.Deep.DeepCutAuto
import Derived.Deep.QuietTactic
import Derived.BigQuiet
namespace Go.Proofs.Ytbkgipafikeccaa
open Go.RowKit
set_option linter.unusedVariables false

set_option maxHeartbeats 4000000 in
set_option maxRecDepth 100000 in
theorem once_walk (ao : Option Addr) (bl off len cap : Nat) (w : World) (hm : len ≤ 9223372036854775807) (hao : 0 < len → ao = some ⟨bl, off, none⟩ ∧ bl < w.heap.size) (hst : Steps w bl off len) :
    Calls Try.prog 3 #[.slice ao len cap] w fun e w' => e = .returned (.bool true) ∧ Below w.heap.size w w' := by
  have HST := Lib.hid hst
  have HAO := Lib.hid hao
  clear hst hao
  go_enter Try.func3, Try.ntmps3
  go_wp2_with fail
  refine (works_any _).mono ?_
  rintro e w1 ⟨rfl, hb1⟩
  go_wp2_with fail
  refine (new_any _).mono ?_
  rintro e w2 ⟨rfl, hw2⟩
  have hh : IsH w2 w1.heap.size nil0 0 := hw2 ▸ isH_new w1
  have hbel : Below w.heap.size w w2 := hw2 ▸ hb1.alloc hb1.size _
  have hbw := hb1.size
  obtain ⟨b, hb⟩ : ∃ b, w1.heap.size = b := ⟨_, rfl⟩
  rw [hb] at hh hbw ⊢
  clear hw2 hb1 hb
  go_wp2_with fail
  have hmid : Mid w (w2.alloc (.cells #[.bool false, .bool false, .bool false, .bool false, .bool false, .bool false] 26)) b w2.heap.size :=
    ⟨nil0, nil0, 0, hh.keep (Below.heap_alloc _ _ _ hh.lt), heap_alloc_new _ _, fun _ _ _ => rfl, hbel.alloc hbel.size _⟩
  have hsb : b < w2.heap.size := hh.lt
  clear hh hbel
  obtain ⟨sb, hsbe⟩ : ∃ sb, w2.heap.size = sb := ⟨_, rfl⟩
  rw [hsbe] at hmid hsb ⊢
  clear hsbe
  go_loopg [5] len (fun g i wr => ∃ k : Nat, i = .int .i64 k ∧ k + g = len ∧ Mid w wr b sb)
  case atStart => exact ⟨0, rfl, by omega, hmid⟩
  case round =>
    obtain ⟨k, rfl, hkg, hmd⟩ := hrel
    clear hmid
    by_cases hlt : k < len
    · by_cases h150 : k < 150
      · obtain ⟨rfl, hbl⟩ := HAO.out (by omega)
        obtain ⟨st, sl, e, hh, hsl, hag, hbel⟩ := hmd
        obtain ⟨d, kind, c, F, K, gr, time, has, fam, now, hrg, hd⟩ := HST.out k hlt
        have hrg2 : wr.rangeAt bl (off + k * 14) d.toList := fun j v hv => (hbel.cell (p := ⟨bl, off + k * 14 + j, none⟩) hbl).trans (hrg j v hv)
        have HSZ := Lib.hid hd.size
        have HON := Lib.hid hd.one
        have HD := Lib.hid hd
        have HRG := Lib.hid hrg2
        have q0 := hd.kind_
        clear hrg hrg2 hd
        obtain ⟨r, hr⟩ : ∃ r, kind.tmod 5 = r := ⟨_, rfl⟩
        have r1 : -5 < r := hr ▸ (tmod5 kind).1
        have r2 : r < 5 := hr ▸ (tmod5 kind).2
        go_upto_block 2 with (first
          | (refine wpList_load_mid rfl 33 (.tmp 37) rfl bl (off + k * 14) rfl d.toList _ HRG.out Try.underlying33 rfl (by rw [Array.length_toList, HSZ.out]; exact size33) ?_)
          | (refine wpList_store_row rfl 33 (.tmp 6) (.tmp 38) rfl wr.heap.size d rfl rfl 33 _ (heap_alloc_new _ _) (by rw [HSZ.out]; exact size33) (by rw [HSZ.out]; rfl) HON.out ?_; rw [setRow_alloc_new]))
        obtain ⟨W1, hW1⟩ : ∃ W1, wr.alloc (.cells d 33) = W1 := ⟨_, rfl⟩
        obtain ⟨xb, hxb⟩ : ∃ xb, wr.heap.size = xb := ⟨_, rfl⟩
        obtain ⟨m, hm5⟩ : ∃ m, r % 5 = m := ⟨_, rfl⟩
        rw [hW1, hxb, show (r + 5) % 5 = m from by omega]
        go_cut [7, 8, 9, 10, 11, 12, 13, 14, 15, 16, 17, 18] (fun s7 s8 s9 s10 s11 s12 s13 s14 s15 s16 s17 s18 wx => Mid w wx b sb)
        case first =>
          have hal : Below wr.heap.size wr W1 := hW1 ▸ (Below.refl _ _).alloc (Nat.le_refl _) _
          have hx : W1.heap[xb]? = some (.cells d 33 (0, 0)) := by rw [← hW1, ← hxb]; exact heap_alloc_new _ _
          have hsx : sb < xb := hxb ▸ lt_of_block hsl
          have hsz1 := hbel.size
          replace hsl := (hal.block _ (lt_of_block hsl)).trans hsl
          replace hh := hh.keep (hal.block _ hh.lt)
          replace hbel := hbel.trans (hal.mono hbel.size)
          have hd := HD.out
          clear hal hW1 HRG HD hr hm5
          by_cases c0 : m = 0
          · subst c0
            exact once_k0 w W1 b sb xb st sl e d c kind F K gr time has fam now _ _ _ (by assumption) (by assumption) hbw hsb hsx hx hsl hh hag hbel hd
          · by_cases c1 : m = 1
            · subst c1
              exact once_k1 w W1 b sb xb st sl e d c kind F K gr time has fam now _ _ _ (by assumption) (by assumption) hbw hsb hsx hx hsl hh hag hbel hd
            · by_cases c2 : m = 2
              · subst c2
                exact once_k2 w W1 b sb xb st sl e d c kind F K gr time has fam now _ _ _ (by assumption) (by assumption) hbw hsb hsx hx hsl hh hag hbel hd
              · by_cases c3 : m = 3
                · subst c3
                  exact once_k3 w W1 b sb xb st sl e d c kind F K gr time has fam now _ _ _ (by assumption) (by assumption) hbw hsb hsx hx hsl hh hag hbel hd
                · exact once_k4 w W1 b sb xb m st sl e d c kind F K gr time has fam now _ _ _ (by assumption) (by assumption) hbw hsb hsx hx hsl hh hag hbel hd (by simpa using c0) (by simpa using c1) (by simpa using c2) (by simpa using c3)
        case rest =>
          obtain ⟨st1, sl1, e1, hh1, hsl1, hag1, hbel1⟩ := hcut
          clear hh hsl hag hbel HD HRG HSZ HON q0 hr r1 r2 hW1 hxb hm5
          go_wp2_with fail
          refine (stale_any _ _ _ _ hh1).mono ?_
          rintro e' w5 ⟨v, rfl, hn⟩
          have hrd := hn.rd
          obtain ⟨av, cv, rfl⟩ := own_form hn.1
          replace hh1 := hh1.keep (hn.2.block _ hh1.lt)
          replace hsl1 := (hn.2.block _ (lt_of_block hsl1)).trans hsl1
          replace hbel1 := hbel1.trans (hn.2.mono hbel1.size)
          have hl6 := famsOf_len st1
          clear hn
          have HRD := Lib.hid hrd
          have HH := Lib.hid hh1
          have HSL := Lib.hid hsl1
          have HB := Lib.hid hbel1
          have HAG := Lib.hid hag1
          clear hrd hh1 hsl1 hbel1 hag1
          go_wp2_with fail
          obtain ⟨go, rfl⟩ : ∃ go, go = gk := ⟨_, rfl⟩
          obtain ⟨wo, rfl⟩ : ∃ wo : World, wo = wr := ⟨_, rfl⟩
          go_loopg [20, 21] 5 (fun g n f wx => ∃ j : Nat, f = .int .i64 j ∧ 1 ≤ j ∧ j + g = 6 ∧ n = .int .i64 ((famsTo st1 j).length : Nat) ∧ Still w5 wx)
          case atStart => exact ⟨1, rfl, Nat.le_refl _, by omega, rfl, Still.refl _⟩
          case round =>
            obtain ⟨j, rfl, hj1, hjg, rfl, hstill⟩ := hrel
            have HST2 := Lib.hid hstill
            have hfl := famsTo_le st1 j
            clear hstill
            by_cases hj5 : j ≤ 5
            · have HEQ : Hid (sl1 j = st1 j) := HAG.out j hj1 hj5
              have hc : wr.cell? ⟨sb, j, none⟩ = some (.bool (sl1 j)) := by
                rw [cell_of_row _ _ _ _ _ _ ((HST2.out.blk sb).trans HSL.out)]; exact fC_at _ _ (by omega)
              have HV := Lib.hid (hasB_fams st1 j hj1 hj5)
              rw [HEQ.out] at hc
              have i1 : (0 : Int) ≤ (j : Int) := by omega
              have i2 : (j : Int) < 6 := by omega
              cases hv : st1 j with
              | true =>
                rw [hv] at hc
                have HT := Lib.hid (famsTo_yes hj1 hv)
                have HVV := Lib.hid hv
                clear hv
                go_wp2_with fail
                go_quiet ((go_at_call 10; exact Calls.quiet_of_same ((has_any _ (nums (famsOf st1)) (j : Int) _ (by exact HRD.out.move fun g _ _ => HST2.out.blk g)).mono fun _ _ ⟨h1, h2⟩ => ⟨by rw [h1, HV.out, HVV.out], h2.symm⟩)))
                have hst3 : Still w5 (wr.drewN nq) := ⟨HST2.out.heap, HST2.out.os, HST2.out.tape, HST2.out.output⟩
                have HST3 := Lib.hid hst3
                clear hst3
                go_wp2
                go_roundg (gk - 1)
                case measure => omega
                case rel => exact ⟨j + 1, by go_num, by omega, by omega, by rw [HT.out]; simp, HST3.out⟩
              | false =>
                rw [hv] at hc
                have HT := Lib.hid (famsTo_no hj1 hv)
                have HVV := Lib.hid hv
                clear hv
                go_wp2_with fail
                go_quiet ((go_at_call 10; exact Calls.quiet_of_same ((has_any _ (nums (famsOf st1)) (j : Int) _ (by exact HRD.out.move fun g _ _ => HST2.out.blk g)).mono fun _ _ ⟨h1, h2⟩ => ⟨by rw [h1, HV.out, HVV.out], h2.symm⟩)))
                have hst3 : Still w5 (wr.drewN nq) := ⟨HST2.out.heap, HST2.out.os, HST2.out.tape, HST2.out.output⟩
                have HST3 := Lib.hid hst3
                clear hst3
                go_wp2
                go_roundg (gk - 1)
                case measure => omega
                case rel => exact ⟨j + 1, by go_num, by omega, by omega, by rw [HT.out], HST3.out⟩
            · obtain rfl : j = 6 := by omega
              have HLL : Hid ((famsTo st1 6).length = (famsOf st1).length) := rfl
              have hll : (((famsOf st1).length : Int) != (famsTo st1 6).length) = false := by rw [HLL.out]; simp
              have hmid2 : Mid w wr b sb := ⟨st1, sl1, e1, HH.out.keep (HST2.out.blk _), (HST2.out.blk _).trans HSL.out, HAG.out, HB.out.trans HST2.out.below⟩
              have HM := Lib.hid hmid2
              clear hmid2
              go_wp2
              go_roundg (go - 1)
              case measure => omega
              case rel => exact ⟨k + 1, by go_num, by omega, HM.out⟩
      · obtain ⟨st, sl, e, hh, hsl, hag, hbel⟩ := hmd
        go_wp2
        go_ret
        exact ⟨rfl, hbel⟩
    · obtain ⟨st, sl, e, hh, hsl, hag, hbel⟩ := hmd
      go_wp2
      go_ret
      exact ⟨rfl, hbel⟩
end Go.Proofs.Ytbkgipafikeccaa
