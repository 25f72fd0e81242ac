/- GrOnce: the switch, kind 1. -/
import Derived.Test.YtbkgipafikeccaaOL
namespace Go.Proofs.Ytbkgipafikeccaa
open Go.RowKit
set_option linter.unusedVariables false

set_option maxHeartbeats 4000000 in
set_option maxRecDepth 100000 in
theorem once_k1 {x0 x5 x19 x20 x21 x22 x23 x24 u2 u7 u8 u9 u10 u11 u12 u13 u14 u15 u16 u17 u18 u25 u26 u27 u28 u29 u30 u31 u32 u33 u34 u35 u36 u37 u38 u39 u40 u41 u42 u44 u45 u46 u47 u48 u49 u50 u51 u52 u53 u54 u55 u56 u57 u58 u59 u60 u61 u62 u63 u64 u65 u66 u67 u68 u69 u70 u71 u72 u73 u74 u75 u76 u77 u78 u79 u80 u81 u82 u83 u84 u85 u86 u87 u88 u89 u90 u91 u92 u93 u94 u95 u96 u97 u98 u99 u100 u101 u102 u103 u104 u105 u106 u107 u108 u109 u110 u111 u112 u113 u114 u115 u116 u117 u118 u119 u120 u121 u122 u123 u124 u125 u126 u127 u128 u129 u130 u131 u132 u133 u134 u135 u136 u137 u138 u139 u140 u141 u142 u143 u144 u145 u146 u147 u148 u149 u150 u151 u152 u153 u154 u155 u156 u157 u158 u159 u160 u161 u162 u163 u164 u165 u166 u167 u168 u169 u170 u171 u172 u173 u174 u175 u176 u177 u178 u179 u180 u181 u182 u183 u184 u185 u186 u187 u188 u189 u190 u191 u192 u193 u194 u195 u196 u197 u198 u199 u200 u201 u202 u203 u204 u205 u206 u207 u208 u209 u210 u211 u212 u213 u214 u215 u216 u217 u218 u219 u220 u221 u222 u223 u224 u225 u226 u227 u228 u229 u230 u231 u232 u233 u234 u235 u236 u237 u238 u239 u240 u241 u242 u243 u244 u245 u246 u247 u248 u249 u250 u251 u252 u253 u254 u255 u256 u257 u258 : Value} (w W1 : World) (b sb xb : Nat) (st sl : Nat → Bool) (e : Int) (d c : Array Value) (kind : Int) (F : List Int) (K : List (Int × Bool)) (gr : Bool) (time : Int) (has : Bool) (fam now : Int)
    (J K' : Act → World → Prop) (Q : Exit → Act → World → Prop)
    (hJ : ∀ (a' : Act) (w' : World), (∃ u2 u7 u8 u9 u10 u11 u12 u13 u14 u15 u16 u17 u18 u25 u26 u27 u28 u29 u30 u31 u32 u33 u34 u35 u36 u37 u38 u39 u40 u41 u42 u44 u45 u46 u47 u48 u49 u50 u51 u52 u53 u54 u55 u56 u57 u58 u59 u60 u61 u62 u63 u64 u65 u66 u67 u68 u69 u70 u71 u72 u73 u74 u75 u76 u77 u78 u79 u80 u81 u82 u83 u84 u85 u86 u87 u88 u89 u90 u91 u92 u93 u94 u95 u96 u97 u98 u99 u100 u101 u102 u103 u104 u105 u106 u107 u108 u109 u110 u111 u112 u113 u114 u115 u116 u117 u118 u119 u120 u121 u122 u123 u124 u125 u126 u127 u128 u129 u130 u131 u132 u133 u134 u135 u136 u137 u138 u139 u140 u141 u142 u143 u144 u145 u146 u147 u148 u149 u150 u151 u152 u153 u154 u155 u156 u157 u158 u159 u160 u161 u162 u163 u164 u165 u166 u167 u168 u169 u170 u171 u172 u173 u174 u175 u176 u177 u178 u179 u180 u181 u182 u183 u184 u185 u186 u187 u188 u189 u190 u191 u192 u193 u194 u195 u196 u197 u198 u199 u200 u201 u202 u203 u204 u205 u206 u207 u208 u209 u210 u211 u212 u213 u214 u215 u216 u217 u218 u219 u220 u221 u222 u223 u224 u225 u226 u227 u228 u229 u230 u231 u232 u233 u234 u235 u236 u237 u238 u239 u240 u241 u242 u243 u244 u245 u246 u247 u248 u249 u250 u251 u252 u253 u254 u255 u256 u257 u258, Mid w w' b sb ∧ a' = ⟨#[x0, undef, u2, .pointer (some ⟨b, 0, none⟩), .pointer (some ⟨sb, 0, none⟩), x5, .pointer (some ⟨xb, 0, none⟩), u7, u8, u9, u10, u11, u12, u13, u14, u15, u16, u17, u18, x19, x20, x21, x22, x23, x24, u25, u26, u27, u28, u29, u30, u31, u32, u33, u34, u35, u36, u37, u38, u39, u40, u41, u42, .int .i64 1, u44, u45, u46, u47, u48, u49, u50, u51, u52, u53, u54, u55, u56, u57, u58, u59, u60, u61, u62, u63, u64, u65, u66, u67, u68, u69, u70, u71, u72, u73, u74, u75, u76, u77, u78, u79, u80, u81, u82, u83, u84, u85, u86, u87, u88, u89, u90, u91, u92, u93, u94, u95, u96, u97, u98, u99, u100, u101, u102, u103, u104, u105, u106, u107, u108, u109, u110, u111, u112, u113, u114, u115, u116, u117, u118, u119, u120, u121, u122, u123, u124, u125, u126, u127, u128, u129, u130, u131, u132, u133, u134, u135, u136, u137, u138, u139, u140, u141, u142, u143, u144, u145, u146, u147, u148, u149, u150, u151, u152, u153, u154, u155, u156, u157, u158, u159, u160, u161, u162, u163, u164, u165, u166, u167, u168, u169, u170, u171, u172, u173, u174, u175, u176, u177, u178, u179, u180, u181, u182, u183, u184, u185, u186, u187, u188, u189, u190, u191, u192, u193, u194, u195, u196, u197, u198, u199, u200, u201, u202, u203, u204, u205, u206, u207, u208, u209, u210, u211, u212, u213, u214, u215, u216, u217, u218, u219, u220, u221, u222, u223, u224, u225, u226, u227, u228, u229, u230, u231, u232, u233, u234, u235, u236, u237, u238, u239, u240, u241, u242, u243, u244, u245, u246, u247, u248, u249, u250, u251, u252, u253, u254, u255, u256, u257, u258], []⟩) → J a' w') (hK : ∀ (a' : Act) (w' : World), Met J a' w' → K' a' w')
    (hbw : w.heap.size ≤ b) (hsb : b < sb) (hsx : sb < xb) (hx : W1.heap[xb]? = some (.cells d 33 (0, 0))) (hsl : W1.heap[sb]? = some (.cells (fC sl) 26 (0, 0))) (hh : IsH W1 b st e) (hag : Agree sl st) (hbel : Below w.heap.size w W1) (hd : DoR w d kind c F K gr time has fam now)
     :
    Code.wp Try.prog onceSw (Exit.then K' Q) ⟨#[x0, undef, u2, .pointer (some ⟨b, 0, none⟩), .pointer (some ⟨sb, 0, none⟩), x5, .pointer (some ⟨xb, 0, none⟩), u7, u8, u9, u10, u11, u12, u13, u14, u15, u16, u17, u18, x19, x20, x21, x22, x23, x24, u25, u26, u27, u28, u29, u30, u31, u32, u33, u34, u35, u36, u37, u38, u39, u40, u41, u42, .int .i64 1, u44, u45, u46, u47, u48, u49, u50, u51, u52, u53, u54, u55, u56, u57, u58, u59, u60, u61, u62, u63, u64, u65, u66, u67, u68, u69, u70, u71, u72, u73, u74, u75, u76, u77, u78, u79, u80, u81, u82, u83, u84, u85, u86, u87, u88, u89, u90, u91, u92, u93, u94, u95, u96, u97, u98, u99, u100, u101, u102, u103, u104, u105, u106, u107, u108, u109, u110, u111, u112, u113, u114, u115, u116, u117, u118, u119, u120, u121, u122, u123, u124, u125, u126, u127, u128, u129, u130, u131, u132, u133, u134, u135, u136, u137, u138, u139, u140, u141, u142, u143, u144, u145, u146, u147, u148, u149, u150, u151, u152, u153, u154, u155, u156, u157, u158, u159, u160, u161, u162, u163, u164, u165, u166, u167, u168, u169, u170, u171, u172, u173, u174, u175, u176, u177, u178, u179, u180, u181, u182, u183, u184, u185, u186, u187, u188, u189, u190, u191, u192, u193, u194, u195, u196, u197, u198, u199, u200, u201, u202, u203, u204, u205, u206, u207, u208, u209, u210, u211, u212, u213, u214, u215, u216, u217, u218, u219, u220, u221, u222, u223, u224, u225, u226, u227, u228, u229, u230, u231, u232, u233, u234, u235, u236, u237, u238, u239, u240, u241, u242, u243, u244, u245, u246, u247, u248, u249, u250, u251, u252, u253, u254, u255, u256, u257, u258], []⟩ W1 := by
  have hse : Ses W1 c F K gr time := hd.ses_.below hbel
  conv => arg 2; whnf
  have q11 : W1.cell? ⟨xb, 11, none⟩ = some (.bool has) := (cell_of_row _ _ _ _ _ _ hx).trans hd.has_
  have hrs : W1.rangeAt xb 1 c.toList := by rw [← hd.ses]; exact World.rangeAt_of_block hx 1 10
  have hlb := hh.lt
  have hls := lt_of_block hsl
  have hlx := lt_of_block hx
  have HAG := Lib.hid hag
  have HSL := Lib.hid hsl
  have HBEL := Lib.hid hbel
  have HRS := Lib.hid hrs
  have HSE := Lib.hid hse
  have HDD := Lib.hid hd
  have HX := Lib.hid hx
  clear hse hd hx hag hsl hbel hrs
  go_wp2_with (refine wpList_load_mid rfl 30 (.tmp 116) rfl xb 1 rfl c.toList _ HRS.out Try.underlying30 rfl (by rw [Array.length_toList, HSE.out.size]; exact size30) ?_)
  refine (up_lets b st e _ c has F K gr time _ hh HSE.out rfl).mono ?_
  rintro e' w5 ⟨fa, fc, L, hLe, rfl, hL⟩
  have HLE := Lib.hid hLe
  clear hLe
  go_simp
  obtain ⟨ao, cap, g, off, hv, hcap, hao, hcell⟩ := hL.rd.open_
  have hlm : L.length ≤ 9223372036854775807 := by have := hL.rd.max; rw [nums_len] at this; unfold maxLen at this; omega
  rw [nums_len] at hcap hao hcell hv
  injection hv with hv1 hv2 hv3
  subst hv1 hv3
  have HA := Lib.hid hao
  have HC := Lib.hid hcell
  have HL := Lib.hid hL
  have HG : Hid (0 < L.length → g ≠ sb) := by
    intro h0
    obtain ⟨rfl, _⟩ := hao h0
    have := hL.own g rfl
    omega
  have hsl5 := Lib.hid ((hL.but.block _ hls (by omega)).trans HSL.out)
  have hx5 := Lib.hid ((hL.but.block _ hlx (by omega)).trans HX.out)
  have hbel5 := Lib.hid (HBEL.out.trans (hL.but.below hbw HBEL.out.size))
  have hfs : Hid (∃ fs, d[2]? = some fs ∧ Rd w fs F) := by
    obtain ⟨fs, f1, f2⟩ := HDD.out.ses_.fams
    exact ⟨fs, ses_fams HDD.out f1, f2⟩
  clear hv2 hcap hao hcell hL q11 hh
  go_wp2_with fail
  go_loopg [14] L.length (fun gg i wx => ∃ k : Nat, i = .int .i64 k ∧ k + gg = L.length ∧ wx.heap[sb]? = some (.cells (fC (dropL sl (L.take k))) 26 (0, 0)) ∧ But sb w5 wx)
  case atStart => exact ⟨0, rfl, by omega, by rw [List.take_zero, dropL_nil]; exact hsl5.out, But.refl _ _⟩
  case round =>
    obtain ⟨k, rfl, hkg, hsm, hbt⟩ := hrel
    have HSM := Lib.hid hsm
    have HBT := Lib.hid hbt
    clear hsm hbt
    by_cases hlt : k < L.length
    · obtain ⟨a, hak, a1, a5, hst, hnc, htk⟩ := HL.out.at_ hlt
      obtain ⟨rfl, hg⟩ := HA.out (by omega)
      have hc : wr.cell? ⟨g, off + k, none⟩ = some (.int .i64 (a : Int)) := by
        rw [HBT.out.cell hg (HG.out (by omega)), HC.out k hlt]
        simp [nums, List.getD_eq_getElem?_getD, hak]
      have hst1 : wr.cell? ⟨sb, a, none⟩ = some (.bool true) := by
        rw [cell_of_row _ _ _ _ _ _ HSM.out, fC_at _ _ (by omega)]
        simp only [dropL, HAG.out a a1 a5, hst, hnc]; rfl
      have hfz : wr.frozen? ⟨sb, a, none⟩ = false := frozen_of_row _ _ _ _ _ HSM.out
      have hnew : (wr.setCell ⟨sb, a, none⟩ (.bool false)).heap[sb]? = some (.cells (fC (dropL sl (L.take (k + 1)))) 26 (0, 0)) := by rw [← fC_drop sl L k a a5 htk]; exact set_heap HSM.out
      have HNW := Lib.hid hnew
      have HB2 := Lib.hid (HBT.out.setCell a (.bool false))
      have i1 : (1 : Int) ≤ (a : Int) := by omega
      have i2 : (a : Int) ≤ 5 := by omega
      have i3 : (0 : Int) ≤ (k : Int) := by omega
      have i4 : (k : Int) < (L.length : Int) := by omega
      clear hak hst hnc htk hnew
      go_wp2
      go_roundg (gk - 1)
      case measure => omega
      case rel => exact ⟨k + 1, by go_num, by omega, HNW.out, HB2.out⟩
    · obtain rfl : k = L.length := by omega
      have hmid2 : Mid w wr b sb := ⟨dropL st L, dropL sl L, e, HL.out.h.keep (HBT.out.block _ HL.out.h.lt (by omega)), by have := HSM.out; rw [List.take_length] at this; exact this, agree_drop HAG.out L, hbel5.out.trans (HBT.out.below (by omega) hbel5.out.size)⟩
      have HM := Lib.hid hmid2
      obtain ⟨fs, hd2, hrf⟩ := hfs.out
      have HRF : Hid (Rd wr fs F) := hrf.below (hbel5.out.trans (HBT.out.below (by omega) hbel5.out.size))
      have hcx : ∀ o, wr.cell? ⟨xb, o, none⟩ = d[o]? := fun o => by rw [HBT.out.cell (lt_of_block hx5.out) (by omega), cell_of_row _ _ _ _ _ _ hx5.out]
      have hcF : wr.cell? ⟨xb, 2, none⟩ = some fs := (hcx 2).trans hd2
      have hcH : wr.cell? ⟨xb, 11, none⟩ = some (.bool has) := (hcx 11).trans HDD.out.has_
      have hcS : Hid (∀ j, 1 ≤ j → j ≤ 5 → wr.cell? ⟨sb, j, none⟩ = some (.bool (dropL st L j))) := by
        intro j h1 h5
        have hs := HSM.out
        rw [List.take_length] at hs
        rw [cell_of_row _ _ _ _ _ _ hs, fC_at _ _ (by omega), agree_drop HAG.out L j h1 h5]
      clear hmid2 hkg hlt hcx hd2 hrf
      have hlf : (L.length : Int) ≤ (L.length : Int) := Int.le_refl _
      go_wp2_with fail
      obtain ⟨W6, hW6⟩ : ∃ W6 : World, W6 = wr := ⟨_, rfl⟩
      obtain ⟨gk0, hgk0⟩ : ∃ n, n = gk := ⟨_, rfl⟩
      subst hW6 hgk0
      go_loopg [15] 5 (fun gg f wx => ∃ j : Nat, f = .int .i64 j ∧ 1 ≤ j ∧ j + gg = 6 ∧ W6 = wx)
      case atStart => exact ⟨1, rfl, Nat.le_refl _, by omega, rfl⟩
      case round =>
        obtain ⟨j, rfl, hj1, hjg, rfl⟩ := hrel
        by_cases hj5 : j ≤ 5
        · have i1 : (0 : Int) ≤ (j : Int) := by omega
          have i2 : (j : Int) < 6 := by omega
          have hcj := hcS.out j hj1 hj5
          have HV := Lib.hid (hasB_of F j hj1 hj5)
          obtain ⟨v, hv⟩ : ∃ v, dropL st L j = v := ⟨_, rfl⟩
          rw [hv] at hcj
          cases v with
          | true =>
            obtain ⟨ho, hf⟩ := drop_up (K := K) (o := has) hj1 hj5 (by rw [← HLE.out]; exact hv)
            subst ho
            have HF := Lib.hid hf
            clear hf hv
            go_wp2_with ((go_at_call 10; refine (has_eq _ _ (j : Int) _ _ HRF.out (HV.out.trans HF.out)).mono ?_; rintro e' w' ⟨rfl, rfl⟩; go_simp))
            go_roundg (gk - 1)
            case measure => omega
            case rel => exact ⟨j + 1, by go_num, by omega, by omega, rfl⟩
          | false =>
            clear hv
            go_wp2
            go_roundg (gk - 1)
            case measure => omega
            case rel => exact ⟨j + 1, by go_num, by omega, by omega, rfl⟩
        · obtain rfl : j = 6 := by omega
          go_wp2
          go_meet
          exact HM.out
end Go.Proofs.Ytbkgipafikeccaa
