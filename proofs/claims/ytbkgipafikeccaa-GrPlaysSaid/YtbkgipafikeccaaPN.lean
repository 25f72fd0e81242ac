/- GrPlays: the walk. -/
import Derived.Test.YtbkgipafikeccaaPK0
import Derived.Test.YtbkgipafikeccaaPK1
import Derived.Test.YtbkgipafikeccaaPK2
import Derived.Test.YtbkgipafikeccaaPK3
import Derived.Test.YtbkgipafikeccaaPK4
import Derived.Deep.RegionHeld3
import Derived.Deep.MidRow
import Derived.Deep.LoopGhost
import Derived.Deep.CutRange
import Derived.Deep.CutBlock
import Derived.Deep.DeepCutAuto
import Derived.Deep.QuietTactic
import Derived.BigQuiet
namespace Go.Proofs.Ytbkgipafikeccaa
open Go.RowKit
set_option linter.unusedVariables false

set_option maxHeartbeats 4000000 in
set_option maxRecDepth 100000 in
theorem plays_walk (ao : Option Addr) (bl off len cap : Nat) (w : World) (hm : len ≤ 9223372036854775807) (hao : 0 < len → ao = some ⟨bl, off, none⟩ ∧ bl < w.heap.size) (hst : Steps w bl off len) :
    Calls Try.prog 5 #[.slice ao len cap] w fun e w' => e = .returned (.bool true) ∧ Below w.heap.size w w' := by
  have HST := Lib.hid hst
  have HAO := Lib.hid hao
  have z := fun w => zeroM w
  clear hst hao
  go_enter Try.func5, Try.ntmps5
  go_wp2_with fail
  refine (new_any _).mono ?_
  rintro e w2 ⟨rfl, hw2⟩
  have hh : IsH w2 w.heap.size nil0 0 := hw2 ▸ isH_new w
  have hbel : Below w.heap.size w w2 := hw2 ▸ (Below.refl _ _).alloc (Nat.le_refl _) _
  obtain ⟨b, hb⟩ : ∃ b, w.heap.size = b := ⟨_, rfl⟩
  have hbw : w.heap.size ≤ b := by omega
  rw [hb] at hh ⊢
  go_wp2_with fail
  have hlt := hh.lt
  have hmid : MidP w (w2.alloc (.cells #[.slice none 0 0, .int .u64 0] 48)) b w2.heap.size nil0 0 (.slice none 0 0) :=
    ⟨hh.keep (Below.heap_alloc _ _ _ hh.lt), heap_alloc_new _ _, rd_nil _, (fun g hg => by cases hg), hbw, by have := hbel.size; omega, by omega, hbel.alloc hbel.size _⟩
  clear hh hbel hw2 hb hbw hlt z
  obtain ⟨mb, hsbe⟩ : ∃ sb, w2.heap.size = sb := ⟨_, rfl⟩
  rw [hsbe] at hmid ⊢
  clear hsbe
  go_loopg [3, 5] len (fun g h i wr => ∃ (k b : Nat) (st : Nat → Bool) (e : Int) (v : Value), h = .pointer (some ⟨b, 0, none⟩) ∧ i = .int .i64 k ∧ k + g = len ∧ MidP w wr b mb st e v)
  case atStart => exact ⟨0, b, nil0, 0, .slice none 0 0, rfl, rfl, by omega, hmid⟩
  case round =>
    obtain ⟨k, b, st, e, v, rfl, rfl, hkg, hmd⟩ := hrel
    clear hmid
    by_cases hlt : k < len
    · by_cases h150 : k < 150
      · obtain ⟨rfl, hbl⟩ := HAO.out (by omega)
        obtain ⟨d, kind, c, F, K, gr, time, has, fam, now, hrg, hd⟩ := HST.out k hlt
        have hrg2 : wr.rangeAt bl (off + k * 14) d.toList := fun j v hv => (hmd.bel.cell (p := ⟨bl, off + k * 14 + j, none⟩) hbl).trans (hrg j v hv)
        have HSZ := Lib.hid hd.size
        have HON := Lib.hid hd.one
        have HD := Lib.hid hd
        have HRG := Lib.hid hrg2
        have q0 := hd.kind_
        have HMD := Lib.hid hmd
        clear hrg hrg2 hd hmd
        obtain ⟨r, hr⟩ : ∃ r, kind.tmod 5 = r := ⟨_, rfl⟩
        have r1 : -5 < r := hr ▸ (tmod5 kind).1
        have r2 : r < 5 := hr ▸ (tmod5 kind).2
        go_upto_block 2 with (first
          | (refine wpList_load_mid rfl 33 (.tmp 39) rfl bl (off + k * 14) rfl d.toList _ HRG.out Try.underlying33 rfl (by rw [Array.length_toList, HSZ.out]; exact size33) ?_)
          | (refine wpList_store_row rfl 33 (.tmp 6) (.tmp 40) rfl wr.heap.size d rfl rfl 33 _ (heap_alloc_new _ _) (by rw [HSZ.out]; exact size33) (by rw [HSZ.out]; rfl) HON.out ?_; rw [setRow_alloc_new]))
        obtain ⟨W1, hW1⟩ : ∃ W1, wr.alloc (.cells d 33) = W1 := ⟨_, rfl⟩
        obtain ⟨xb, hxb⟩ : ∃ xb, wr.heap.size = xb := ⟨_, rfl⟩
        obtain ⟨m, hm5⟩ : ∃ m, r % 5 = m := ⟨_, rfl⟩
        rw [hW1, hxb, show (r + 5) % 5 = m from by omega]
        go_cut [3, 7, 8, 9, 10, 11, 12, 13, 14, 15, 16, 17, 18, 19, 20, 21, 22] (fun s3 s7 s8 s9 s10 s11 s12 s13 s14 s15 s16 s17 s18 s19 s20 s21 s22 wx => ∃ (b : Nat) (st : Nat → Bool) (e : Int) (v : Value), s3 = .pointer (some ⟨b, 0, none⟩) ∧ MidP w wx b mb st e v)
        case first =>
          have hx : W1.heap[xb]? = some (.cells d 33 (0, 0)) := by rw [← hW1, ← hxb]; exact heap_alloc_new _ _
          have hbx : b ≠ xb := by have := HMD.out.h.lt; omega
          have hmd1 : MidP w W1 b mb st e v := hW1 ▸ HMD.out.below ((Below.refl _ _).alloc (Nat.le_refl _) _)
          have hd := HD.out
          have m0 : 0 ≤ m := by omega
          have m5 : m < 5 := by omega
          clear hW1 HRG HD hr hm5 HMD
          by_cases c0 : m = 0
          · subst c0
            exact plays_k0 w W1 b mb xb st e v d c kind F K gr time has fam now _ _ _ (by assumption) (by assumption) hx hbx hmd1 hd
          · by_cases c1 : m = 1
            · subst c1
              exact plays_k1 w W1 b mb xb st e v d c kind F K gr time has fam now _ _ _ (by assumption) (by assumption) hx hbx hmd1 hd
            · by_cases c2 : m = 2
              · subst c2
                exact plays_k2 w W1 b mb xb st e v d c kind F K gr time has fam now _ _ _ (by assumption) (by assumption) hx hbx hmd1 hd
              · by_cases c3 : m = 3
                · subst c3
                  exact plays_k3 w W1 b mb xb st e v d c kind F K gr time has fam now _ _ _ (by assumption) (by assumption) hx hbx hmd1 hd
                · obtain rfl : m = 4 := by omega
                  exact plays_k4 w W1 b mb xb st e v d c kind F K gr time has fam now _ _ _ (by assumption) (by assumption) hx hbx hmd1 hd
        case rest =>
          obtain ⟨b1, st1, e1, v1, rfl, hm1⟩ := hcut
          clear HMD HD HRG HSZ HON q0 hr r1 r2 hW1 hxb hm5
          have HM1 := Lib.hid hm1
          clear hm1
          go_wp2_with fail
          refine (stale_any _ _ _ _ HM1.out.h).mono ?_
          rintro e' w5 ⟨v, rfl, hn⟩
          have hrd := hn.rd
          have hin := own_ints hn.1 (by have := famsOf_len st1; omega)
          have hge := own_ge hn.1
          obtain ⟨av, cv, rfl⟩ := own_form hn.1
          have hm5 := HM1.out.below hn.2
          have hown : ∀ g, (Value.slice av (famsOf st1).length cv).ownBlock = some g → w.heap.size ≤ g ∧ g ≠ b1 ∧ g ≠ mb ∧ v1.ownBlock ≠ some g := fun g hg => by
            have h1 := hge g hg
            have h2 := HM1.out.h.lt
            have h3 := lt_of_block HM1.out.m
            have h4 := HM1.out.bel.size
            exact ⟨by omega, by omega, by omega, fun hv => by have := HM1.out.own g hv; omega⟩
          have HM5 := Lib.hid hm5
          have HRD := Lib.hid hrd
          have HIN := Lib.hid hin
          have HOWN := Lib.hid hown
          have hc0 : w5.cell? ⟨mb, 0, none⟩ = some v1 := cell_of_row _ _ _ _ _ _ hm5.m
          clear hn hrd hin hge hm5 hown HM1
          go_wp2_with fail
          refine (same_any _ _ _ _ _ HRD.out HM5.out.rd).mono ?_
          rintro e' w6 ⟨he, hst6⟩
          rw [eqB_self] at he
          subst he
          have HM6 := Lib.hid (HM5.out.still hst6)
          have HI6 := Lib.hid (HIN.out.still hst6)
          clear hst6 hc0 HM5 HIN HRD
          go_wp2_with fail
          refine (spoil_keep _ (.slice none 0 0) _ HI6.out (IntRow.nil _)).mono ?_
          rintro e' w7 ⟨rfl, ⟨g7, hb7, hg7⟩, _⟩
          have HM7 := Lib.hid (HM6.out.spoilt hb7 hg7 HOWN.out)
          clear HM6 HI6 hb7 hg7 HOWN
          go_wp2_with fail
          go_roundg (gk - 1)
          case measure => omega
          case rel => exact ⟨k + 1, b1, st1, e1, v1, rfl, by go_num, by omega, HM7.out⟩
      · have HM := Lib.hid hmd
        clear hmd
        go_wp2_with fail
        have hc0 : wr.cell? ⟨mb, 0, none⟩ = some v := cell_of_row _ _ _ _ _ _ HM.out.m
        go_region_held3 (fun w' => w'.cell? ⟨mb, 0, none⟩ = some v) (go_keep)
          (first
            | (go_at_call 14; refine (stale_any b st e _ (by exact HM.out.h.keep rfl)).mono ?_; rintro r w4 ⟨v4, rfl, hn⟩; have hM4 := (fun (W : World) (hb : Below W.heap.size W w4) (hW : Still wr W) => MidP.below (HM.out.still hW) hb) _ hn.2 ⟨rfl, rfl, rfl, rfl⟩; have hc4 : w4.cell? ⟨mb, 0, none⟩ = some v := cell_of_row _ _ _ _ _ _ hM4.m)
            | (go_at_call 16; refine (same_any _ _ _ _ _ (by exact hn.rd) (by exact hM4.rd)).mono ?_; rintro r w5 ⟨he, hs5⟩; rw [eqB_self] at he; subst he; have hM5 := hM4.still hs5; have hc5 : w5.cell? ⟨mb, 0, none⟩ = some v := cell_of_row _ _ _ _ _ _ hM5.m)
            | (go_at_call 7; refine (works_any _).mono ?_; rintro r w6 ⟨rfl, hb6⟩; have hM6 := hM5.below hb6; have hc6 : w6.cell? ⟨mb, 0, none⟩ = some v := cell_of_row _ _ _ _ _ _ hM6.m))
        clear hc0 hc4 hc5 hc6
        go_wp2
        go_ret
        exact ⟨rfl, hM6.bel⟩
    · have HM := Lib.hid hmd
      clear hmd
      go_wp2_with fail
      have hc0 : wr.cell? ⟨mb, 0, none⟩ = some v := cell_of_row _ _ _ _ _ _ HM.out.m
      go_region_held3 (fun w' => w'.cell? ⟨mb, 0, none⟩ = some v) (go_keep)
        (first
          | (go_at_call 14; refine (stale_any b st e _ (by exact HM.out.h.keep rfl)).mono ?_; rintro r w4 ⟨v4, rfl, hn⟩; have hM4 := (fun (W : World) (hb : Below W.heap.size W w4) (hW : Still wr W) => MidP.below (HM.out.still hW) hb) _ hn.2 ⟨rfl, rfl, rfl, rfl⟩; have hc4 : w4.cell? ⟨mb, 0, none⟩ = some v := cell_of_row _ _ _ _ _ _ hM4.m)
          | (go_at_call 16; refine (same_any _ _ _ _ _ (by exact hn.rd) (by exact hM4.rd)).mono ?_; rintro r w5 ⟨he, hs5⟩; rw [eqB_self] at he; subst he; have hM5 := hM4.still hs5; have hc5 : w5.cell? ⟨mb, 0, none⟩ = some v := cell_of_row _ _ _ _ _ _ hM5.m)
          | (go_at_call 7; refine (works_any _).mono ?_; rintro r w6 ⟨rfl, hb6⟩; have hM6 := hM5.below hb6; have hc6 : w6.cell? ⟨mb, 0, none⟩ = some v := cell_of_row _ _ _ _ _ _ hM6.m))
      clear hc0 hc4 hc5 hc6
      go_wp2
      go_ret
      exact ⟨rfl, hM6.bel⟩
end Go.Proofs.Ytbkgipafikeccaa
