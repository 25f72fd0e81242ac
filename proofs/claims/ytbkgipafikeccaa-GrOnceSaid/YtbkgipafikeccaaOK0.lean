/- GrOnce: the switch, kind 0. -/
import Derived.Test.YtbkgipafikeccaaOA
namespace Go.Proofs.Ytbkgipafikeccaa
open Go.RowKit
set_option linter.unusedVariables false

set_option maxHeartbeats 4000000 in
set_option maxRecDepth 100000 in
theorem once_k0 {x0 x5 x19 x20 x21 x22 x23 x24 u2 u7 u8 u9 u10 u11 u12 u13 u14 u15 u16 u17 u18 u25 u26 u27 u28 u29 u30 u31 u32 u33 u34 u35 u36 u37 u38 u39 u40 u41 u42 u44 u45 u46 u47 u48 u49 u50 u51 u52 u53 u54 u55 u56 u57 u58 u59 u60 u61 u62 u63 u64 u65 u66 u67 u68 u69 u70 u71 u72 u73 u74 u75 u76 u77 u78 u79 u80 u81 u82 u83 u84 u85 u86 u87 u88 u89 u90 u91 u92 u93 u94 u95 u96 u97 u98 u99 u100 u101 u102 u103 u104 u105 u106 u107 u108 u109 u110 u111 u112 u113 u114 u115 u116 u117 u118 u119 u120 u121 u122 u123 u124 u125 u126 u127 u128 u129 u130 u131 u132 u133 u134 u135 u136 u137 u138 u139 u140 u141 u142 u143 u144 u145 u146 u147 u148 u149 u150 u151 u152 u153 u154 u155 u156 u157 u158 u159 u160 u161 u162 u163 u164 u165 u166 u167 u168 u169 u170 u171 u172 u173 u174 u175 u176 u177 u178 u179 u180 u181 u182 u183 u184 u185 u186 u187 u188 u189 u190 u191 u192 u193 u194 u195 u196 u197 u198 u199 u200 u201 u202 u203 u204 u205 u206 u207 u208 u209 u210 u211 u212 u213 u214 u215 u216 u217 u218 u219 u220 u221 u222 u223 u224 u225 u226 u227 u228 u229 u230 u231 u232 u233 u234 u235 u236 u237 u238 u239 u240 u241 u242 u243 u244 u245 u246 u247 u248 u249 u250 u251 u252 u253 u254 u255 u256 u257 u258 : Value} (w W1 : World) (b sb xb : Nat) (st sl : Nat → Bool) (e : Int) (d c : Array Value) (kind : Int) (F : List Int) (K : List (Int × Bool)) (gr : Bool) (time : Int) (has : Bool) (fam now : Int)
    (J K' : Act → World → Prop) (Q : Exit → Act → World → Prop)
    (hJ : ∀ (a' : Act) (w' : World), (∃ u2 u7 u8 u9 u10 u11 u12 u13 u14 u15 u16 u17 u18 u25 u26 u27 u28 u29 u30 u31 u32 u33 u34 u35 u36 u37 u38 u39 u40 u41 u42 u44 u45 u46 u47 u48 u49 u50 u51 u52 u53 u54 u55 u56 u57 u58 u59 u60 u61 u62 u63 u64 u65 u66 u67 u68 u69 u70 u71 u72 u73 u74 u75 u76 u77 u78 u79 u80 u81 u82 u83 u84 u85 u86 u87 u88 u89 u90 u91 u92 u93 u94 u95 u96 u97 u98 u99 u100 u101 u102 u103 u104 u105 u106 u107 u108 u109 u110 u111 u112 u113 u114 u115 u116 u117 u118 u119 u120 u121 u122 u123 u124 u125 u126 u127 u128 u129 u130 u131 u132 u133 u134 u135 u136 u137 u138 u139 u140 u141 u142 u143 u144 u145 u146 u147 u148 u149 u150 u151 u152 u153 u154 u155 u156 u157 u158 u159 u160 u161 u162 u163 u164 u165 u166 u167 u168 u169 u170 u171 u172 u173 u174 u175 u176 u177 u178 u179 u180 u181 u182 u183 u184 u185 u186 u187 u188 u189 u190 u191 u192 u193 u194 u195 u196 u197 u198 u199 u200 u201 u202 u203 u204 u205 u206 u207 u208 u209 u210 u211 u212 u213 u214 u215 u216 u217 u218 u219 u220 u221 u222 u223 u224 u225 u226 u227 u228 u229 u230 u231 u232 u233 u234 u235 u236 u237 u238 u239 u240 u241 u242 u243 u244 u245 u246 u247 u248 u249 u250 u251 u252 u253 u254 u255 u256 u257 u258, Mid w w' b sb ∧ a' = ⟨#[x0, undef, u2, .pointer (some ⟨b, 0, none⟩), .pointer (some ⟨sb, 0, none⟩), x5, .pointer (some ⟨xb, 0, none⟩), u7, u8, u9, u10, u11, u12, u13, u14, u15, u16, u17, u18, x19, x20, x21, x22, x23, x24, u25, u26, u27, u28, u29, u30, u31, u32, u33, u34, u35, u36, u37, u38, u39, u40, u41, u42, .int .i64 0, u44, u45, u46, u47, u48, u49, u50, u51, u52, u53, u54, u55, u56, u57, u58, u59, u60, u61, u62, u63, u64, u65, u66, u67, u68, u69, u70, u71, u72, u73, u74, u75, u76, u77, u78, u79, u80, u81, u82, u83, u84, u85, u86, u87, u88, u89, u90, u91, u92, u93, u94, u95, u96, u97, u98, u99, u100, u101, u102, u103, u104, u105, u106, u107, u108, u109, u110, u111, u112, u113, u114, u115, u116, u117, u118, u119, u120, u121, u122, u123, u124, u125, u126, u127, u128, u129, u130, u131, u132, u133, u134, u135, u136, u137, u138, u139, u140, u141, u142, u143, u144, u145, u146, u147, u148, u149, u150, u151, u152, u153, u154, u155, u156, u157, u158, u159, u160, u161, u162, u163, u164, u165, u166, u167, u168, u169, u170, u171, u172, u173, u174, u175, u176, u177, u178, u179, u180, u181, u182, u183, u184, u185, u186, u187, u188, u189, u190, u191, u192, u193, u194, u195, u196, u197, u198, u199, u200, u201, u202, u203, u204, u205, u206, u207, u208, u209, u210, u211, u212, u213, u214, u215, u216, u217, u218, u219, u220, u221, u222, u223, u224, u225, u226, u227, u228, u229, u230, u231, u232, u233, u234, u235, u236, u237, u238, u239, u240, u241, u242, u243, u244, u245, u246, u247, u248, u249, u250, u251, u252, u253, u254, u255, u256, u257, u258], []⟩) → J a' w') (hK : ∀ (a' : Act) (w' : World), Met J a' w' → K' a' w')
    (hbw : w.heap.size ≤ b) (hsb : b < sb) (hsx : sb < xb) (hx : W1.heap[xb]? = some (.cells d 33 (0, 0))) (hsl : W1.heap[sb]? = some (.cells (fC sl) 26 (0, 0))) (hh : IsH W1 b st e) (hag : Agree sl st) (hbel : Below w.heap.size w W1) (hd : DoR w d kind c F K gr time has fam now)
     :
    Code.wp Try.prog onceSw (Exit.then K' Q) ⟨#[x0, undef, u2, .pointer (some ⟨b, 0, none⟩), .pointer (some ⟨sb, 0, none⟩), x5, .pointer (some ⟨xb, 0, none⟩), u7, u8, u9, u10, u11, u12, u13, u14, u15, u16, u17, u18, x19, x20, x21, x22, x23, x24, u25, u26, u27, u28, u29, u30, u31, u32, u33, u34, u35, u36, u37, u38, u39, u40, u41, u42, .int .i64 0, u44, u45, u46, u47, u48, u49, u50, u51, u52, u53, u54, u55, u56, u57, u58, u59, u60, u61, u62, u63, u64, u65, u66, u67, u68, u69, u70, u71, u72, u73, u74, u75, u76, u77, u78, u79, u80, u81, u82, u83, u84, u85, u86, u87, u88, u89, u90, u91, u92, u93, u94, u95, u96, u97, u98, u99, u100, u101, u102, u103, u104, u105, u106, u107, u108, u109, u110, u111, u112, u113, u114, u115, u116, u117, u118, u119, u120, u121, u122, u123, u124, u125, u126, u127, u128, u129, u130, u131, u132, u133, u134, u135, u136, u137, u138, u139, u140, u141, u142, u143, u144, u145, u146, u147, u148, u149, u150, u151, u152, u153, u154, u155, u156, u157, u158, u159, u160, u161, u162, u163, u164, u165, u166, u167, u168, u169, u170, u171, u172, u173, u174, u175, u176, u177, u178, u179, u180, u181, u182, u183, u184, u185, u186, u187, u188, u189, u190, u191, u192, u193, u194, u195, u196, u197, u198, u199, u200, u201, u202, u203, u204, u205, u206, u207, u208, u209, u210, u211, u212, u213, u214, u215, u216, u217, u218, u219, u220, u221, u222, u223, u224, u225, u226, u227, u228, u229, u230, u231, u232, u233, u234, u235, u236, u237, u238, u239, u240, u241, u242, u243, u244, u245, u246, u247, u248, u249, u250, u251, u252, u253, u254, u255, u256, u257, u258], []⟩ W1 := by
  have hse : Ses W1 c F K gr time := hd.ses_.below hbel
  conv => arg 2; whnf
  have q13 : W1.cell? ⟨xb, 13, none⟩ = some (.int .u64 now) := (cell_of_row _ _ _ _ _ _ hx).trans hd.now_
  have hrs : W1.rangeAt xb 1 c.toList := by rw [← hd.ses]; exact World.rangeAt_of_block hx 1 10
  have HRS := Lib.hid hrs
  have HSE := Lib.hid hse
  have HDD := Lib.hid hd
  clear hrs hse hd
  go_wp2_with (refine wpList_load_mid rfl 30 (.tmp 48) rfl xb 1 rfl c.toList _ HRS.out Try.underlying30 rfl (by rw [Array.length_toList, HSE.out.size]; exact size30) ?_)
  refine (down_any b st e c F K gr time now _ hh HSE.out HDD.out.n1 HDD.out.n2).mono ?_
  rintro r' w5 ⟨vk, vg, rfl, hk, hg, hh5, hb5⟩
  go_simp
  have rk := own_rd hk rfl
  have rg := own_rd hg rfl
  obtain ⟨ak, ck, rfl⟩ := own_form hk
  obtain ⟨ag, cg, rfl⟩ := own_form hg
  have hlb := hh.lt
  have hlx := lt_of_block hx
  have hls := lt_of_block hsl
  have hsl5 := (hb5.block _ hls (by omega)).trans hsl
  have hx5 := (hb5.block _ hlx (by omega)).trans hx
  have hbel5 := hbel.trans (hb5.below (by omega) hbel.size)
  have hse5 : Hid (∃ fs, d[2]? = some fs ∧ Rd w fs F) := by
    obtain ⟨fs, f1, f2⟩ := HDD.out.ses_.fams
    exact ⟨fs, ses_fams HDD.out f1, f2⟩
  have nk : ∀ g, (Value.slice ak (famsOf (keepsP F K gr)).length ck).ownBlock = some g → W1.heap.size ≤ g := own_ge hk
  have ng : ∀ g, (Value.slice ag (famsOf (goneP st F K gr)).length cg).ownBlock = some g → W1.heap.size ≤ g := own_ge hg
  have HAT : Hid (0 < now → (decide (0 < atV (famsOf (keepsP F K gr)) time now) = decide (0 < (famsOf (keepsP F K gr)).length))) := at_pos _ _ _
  have at0 := hh5.e0
  have at1 := hh5.e1
  generalize atV (famsOf (keepsP F K gr)) time now = at_ at *
  have HRK := Lib.hid rk
  have HRG := Lib.hid rg
  have HH5 := Lib.hid hh5
  have HSL5 := Lib.hid hsl5
  have HX5 := Lib.hid hx5
  have HB5 := Lib.hid hbel5
  have HNK := Lib.hid nk
  have HNG := Lib.hid ng
  have HAG := Lib.hid hag
  clear rk rg hk hg hb5 hh5 hsl5 hx5 hbel5 nk ng hag hh hsl hx hbel q13
  go_wp2_with fail
  obtain ⟨fs, hd2, hrf⟩ := hse5.out
  have HRF := Lib.hid hrf
  clear hse5 hrf
  have hsa : Hid (Agree sl st) := HAG.out
  go_loopg [10] 5 (fun g f wx => ∃ (j : Nat) (sm : Nat → Bool), f = .int .i64 j ∧ 1 ≤ j ∧ j + g = 6 ∧ wx.heap[sb]? = some (.cells (fC sm) 26 (0, 0)) ∧ But sb w5 wx ∧ Hid (∀ i, 1 ≤ i → i ≤ 5 → sm i = if i < j then keepsP F K gr i else st i))
  case atStart => exact ⟨1, sl, rfl, Nat.le_refl _, by omega, HSL5.out, But.refl _ _, fun i h1 h5 => by rw [if_neg (by omega)]; exact HAG.out i h1 h5⟩
  case round => as_aux_lemma =>
    obtain ⟨j, sm, rfl, hj1, hjg, hsm, hbt, HSM⟩ := hrel
    have HBT := Lib.hid hbt
    have HSMB := Lib.hid hsm
    clear hsm hbt
    by_cases hj5 : j ≤ 5
    · have i1 : (0 : Int) ≤ (j : Int) := by omega
      have i2 : (j : Int) < 6 := by omega
      have v1 := hasB_fams (keepsP F K gr) j hj1 hj5
      have v2 := hasB_fams (goneP st F K gr) j hj1 hj5
      have v3 := hasB_of F j hj1 hj5
      have v4 : sm j = st j := by rw [HSM.out j hj1 hj5, if_neg (by omega)]
      have hst1 : wr.cell? ⟨sb, j, none⟩ = some (.bool (sm j)) := by rw [cell_of_row _ _ _ _ _ _ HSMB.out]; exact fC_at _ _ (by omega)
      have hfz : wr.frozen? ⟨sb, j, none⟩ = false := frozen_of_row _ _ _ _ _ HSMB.out
      have hcx : ∀ o, wr.cell? ⟨xb, o, none⟩ = d[o]? := fun o => by rw [HBT.out.cell (lt_of_block HX5.out) (by omega), cell_of_row _ _ _ _ _ _ HX5.out]
      have hcF : wr.cell? ⟨xb, 2, none⟩ = some fs := (hcx 2).trans hd2
      have hcG : wr.cell? ⟨xb, 7, none⟩ = some (.bool gr) := (hcx 7).trans (ses_gr HDD.out)
      rw [v4] at hst1
      have vk : keepsP F K gr j = (gr && ofP F j && standsP K false j) := rfl
      have vg : goneP st F K gr j = (!keepsP F K gr j && (ofP F j || st j)) := rfl
      have rk2 : Rd wr (.slice ak (famsOf (keepsP F K gr)).length ck) (nums (famsOf (keepsP F K gr))) := rd_but HRK.out (fun g hg => by have := HNK.out g hg; omega) HBT.out
      have rg2 : Rd wr (.slice ag (famsOf (goneP st F K gr)).length cg) (nums (famsOf (goneP st F K gr))) := rd_but HRG.out (fun g hg => by have := HNG.out g hg; omega) HBT.out
      have rf2 : Rd wr fs F := HRF.out.below (HB5.out.trans (HBT.out.below (by omega) HB5.out.size))
      have hnew : ∀ v, (wr.setCell ⟨sb, j, none⟩ (.bool v)).heap[sb]? = some (.cells (fC (upd sm j v)) 26 (0, 0)) := fun v => by rw [← fC_set _ _ j (by omega)]; exact set_heap HSMB.out
      have hbt2 : ∀ v, But sb w5 (wr.setCell ⟨sb, j, none⟩ (.bool v)) := fun v => HBT.out.setCell j (.bool v)
      have hsm2 : ∀ v, keepsP F K gr j = v → Hid (∀ i, 1 ≤ i → i ≤ 5 → upd sm j v i = if i < j + 1 then keepsP F K gr i else st i) := by
        intro v hv i h1 h5
        unfold upd
        by_cases e : i = j
        · subst e; rw [if_pos rfl, if_pos (by omega), hv]
        · rw [if_neg e, HSM.out i h1 h5]
          by_cases hl : i < j
          · rw [if_pos hl, if_pos (by omega)]
          · rw [if_neg hl, if_neg (by omega)]
      have RK := Lib.hid rk2
      have RG := Lib.hid rg2
      have RF := Lib.hid rf2
      have HNW := Lib.hid hnew
      have HB2 := Lib.hid hbt2
      have HS2 := Lib.hid hsm2
      clear rk2 rg2 rf2 hnew hbt2 hsm2 hcx v4
      generalize hkp : keepsP F K gr j = kp at *
      generalize hgp : goneP st F K gr j = gp at *
      generalize hfp : ofP F j = fp at *
      generalize htp : st j = tp at *
      generalize standsP K false j = sp at *
      have V1 := Lib.hid v1
      have V2 := Lib.hid v2
      have V3 := Lib.hid v3
      have HKP := Lib.hid hkp
      clear v1 v2 v3 hkp hgp hfp htp hd2
      cases kp with
      | true =>
        have hg1 : gr = true := by cases gr <;> simp at vk ⊢
        have hf1 : fp = true := by cases fp <;> simp at vk ⊢
        subst hf1
        simp at vg
        subst vg
        clear vk
        rw [hg1] at hcG
        have HG1 := Lib.hid hg1
        clear hg1
        cases tp
        all_goals as_aux_lemma =>
          go_wp2_with fail
          refine (has_eq _ _ (j : Int) _ _ RK.out V1.out).mono ?_
          rintro e' w' ⟨rfl, rfl⟩
          go_simp
          go_wp2_with fail
          refine (has_eq _ _ (j : Int) _ _ RG.out V2.out).mono ?_
          rintro e' w' ⟨rfl, rfl⟩
          go_simp
          go_wp2_with ((go_at_call 10; refine (has_eq _ _ (j : Int) _ _ RF.out V3.out).mono ?_; rintro e' w' ⟨rfl, rfl⟩; go_simp))
          go_roundg (gk - 1)
          case measure => omega
          case rel => exact ⟨j + 1, _, by go_num, by omega, by omega, HNW.out _, HB2.out _, HS2.out _ rfl⟩
      | false =>
        simp at vg
        subst vg
        clear vk
        cases fp <;> cases tp
        all_goals as_aux_lemma =>
          go_wp2_with fail
          refine (has_eq _ _ (j : Int) _ _ RK.out V1.out).mono ?_
          rintro e' w' ⟨rfl, rfl⟩
          go_simp
          go_wp2_with fail
          refine (has_eq _ _ (j : Int) _ _ RG.out V2.out).mono ?_
          rintro e' w' ⟨rfl, rfl⟩
          go_simp
          go_wp2_with ((go_at_call 10; refine (has_eq _ _ (j : Int) _ _ RF.out V3.out).mono ?_; rintro e' w' ⟨rfl, rfl⟩; go_simp))
          go_roundg (gk - 1)
          case measure => omega
          case rel => exact ⟨j + 1, _, by go_num, by omega, by omega, HNW.out _, HB2.out _, HS2.out _ rfl⟩
    · obtain rfl : j = 6 := by omega
      have q13 : wr.cell? ⟨xb, 13, none⟩ = some (.int .u64 now) := by rw [HBT.out.cell (lt_of_block HX5.out) (by omega), cell_of_row _ _ _ _ _ _ HX5.out]; exact HDD.out.now_
      have hmid2 : Mid w wr b sb := ⟨keepsP F K gr, sm, at_, HH5.out.keep (HBT.out.block _ HH5.out.lt (by omega)), HSMB.out, fun i h1 h5 => by rw [HSM.out i h1 h5, if_pos (by omega)], HB5.out.trans (HBT.out.below (by omega) HB5.out.size)⟩
      have HM := Lib.hid hmid2
      clear hmid2
      generalize (famsOf (keepsP F K gr)).length = nk at *
      by_cases hnow : 0 < now
      · have hat := HAT.out hnow
        by_cases hat0 : 0 < at_
        · have hnk : 0 < nk := by simp [hat0] at hat; exact hat
          have f1 : decide ((0 : Int) < at_) = true := by simp [hat0]
          have f2 : decide ((0 : Int) < (nk : Int)) = true := by simp; omega
          clear hat
          go_wp2
          go_meet
          exact HM.out
        · have hnk : nk = 0 := by simp [hat0] at hat; omega
          have f1 : decide ((0 : Int) < at_) = false := by simp; omega
          subst hnk
          clear hat
          go_wp2
          go_meet
          exact HM.out
      · have f3 : decide ((0 : Int) < now) = false := by simp; omega
        clear hnow
        by_cases hat0 : 0 < at_
        · by_cases hnk : 0 < nk
          · go_wp2
            go_meet
            exact HM.out
          · obtain rfl : nk = 0 := by omega
            go_wp2
            go_meet
            exact HM.out
        · have f1 : decide ((0 : Int) < at_) = false := by simp; omega
          by_cases hnk : 0 < nk
          · go_wp2
            go_meet
            exact HM.out
          · obtain rfl : nk = 0 := by omega
            go_wp2
            go_meet
            exact HM.out
end Go.Proofs.Ytbkgipafikeccaa
