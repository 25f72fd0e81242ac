/- GrOnce: the switch, kind 2. -/
import Derived.Test.YtbkgipafikeccaaOA
namespace Go.Proofs.Ytbkgipafikeccaa
open Go.RowKit
set_option linter.unusedVariables false

set_option maxHeartbeats 4000000 in
set_option maxRecDepth 100000 in
theorem once_k2 {x0 x5 x19 x20 x21 x22 x23 x24 u2 u7 u8 u9 u10 u11 u12 u13 u14 u15 u16 u17 u18 u25 u26 u27 u28 u29 u30 u31 u32 u33 u34 u35 u36 u37 u38 u39 u40 u41 u42 u44 u45 u46 u47 u48 u49 u50 u51 u52 u53 u54 u55 u56 u57 u58 u59 u60 u61 u62 u63 u64 u65 u66 u67 u68 u69 u70 u71 u72 u73 u74 u75 u76 u77 u78 u79 u80 u81 u82 u83 u84 u85 u86 u87 u88 u89 u90 u91 u92 u93 u94 u95 u96 u97 u98 u99 u100 u101 u102 u103 u104 u105 u106 u107 u108 u109 u110 u111 u112 u113 u114 u115 u116 u117 u118 u119 u120 u121 u122 u123 u124 u125 u126 u127 u128 u129 u130 u131 u132 u133 u134 u135 u136 u137 u138 u139 u140 u141 u142 u143 u144 u145 u146 u147 u148 u149 u150 u151 u152 u153 u154 u155 u156 u157 u158 u159 u160 u161 u162 u163 u164 u165 u166 u167 u168 u169 u170 u171 u172 u173 u174 u175 u176 u177 u178 u179 u180 u181 u182 u183 u184 u185 u186 u187 u188 u189 u190 u191 u192 u193 u194 u195 u196 u197 u198 u199 u200 u201 u202 u203 u204 u205 u206 u207 u208 u209 u210 u211 u212 u213 u214 u215 u216 u217 u218 u219 u220 u221 u222 u223 u224 u225 u226 u227 u228 u229 u230 u231 u232 u233 u234 u235 u236 u237 u238 u239 u240 u241 u242 u243 u244 u245 u246 u247 u248 u249 u250 u251 u252 u253 u254 u255 u256 u257 u258 : Value} (w W1 : World) (b sb xb : Nat) (st sl : Nat → Bool) (e : Int) (d c : Array Value) (kind : Int) (F : List Int) (K : List (Int × Bool)) (gr : Bool) (time : Int) (has : Bool) (fam now : Int)
    (J K' : Act → World → Prop) (Q : Exit → Act → World → Prop)
    (hJ : ∀ (a' : Act) (w' : World), (∃ u2 u7 u8 u9 u10 u11 u12 u13 u14 u15 u16 u17 u18 u25 u26 u27 u28 u29 u30 u31 u32 u33 u34 u35 u36 u37 u38 u39 u40 u41 u42 u44 u45 u46 u47 u48 u49 u50 u51 u52 u53 u54 u55 u56 u57 u58 u59 u60 u61 u62 u63 u64 u65 u66 u67 u68 u69 u70 u71 u72 u73 u74 u75 u76 u77 u78 u79 u80 u81 u82 u83 u84 u85 u86 u87 u88 u89 u90 u91 u92 u93 u94 u95 u96 u97 u98 u99 u100 u101 u102 u103 u104 u105 u106 u107 u108 u109 u110 u111 u112 u113 u114 u115 u116 u117 u118 u119 u120 u121 u122 u123 u124 u125 u126 u127 u128 u129 u130 u131 u132 u133 u134 u135 u136 u137 u138 u139 u140 u141 u142 u143 u144 u145 u146 u147 u148 u149 u150 u151 u152 u153 u154 u155 u156 u157 u158 u159 u160 u161 u162 u163 u164 u165 u166 u167 u168 u169 u170 u171 u172 u173 u174 u175 u176 u177 u178 u179 u180 u181 u182 u183 u184 u185 u186 u187 u188 u189 u190 u191 u192 u193 u194 u195 u196 u197 u198 u199 u200 u201 u202 u203 u204 u205 u206 u207 u208 u209 u210 u211 u212 u213 u214 u215 u216 u217 u218 u219 u220 u221 u222 u223 u224 u225 u226 u227 u228 u229 u230 u231 u232 u233 u234 u235 u236 u237 u238 u239 u240 u241 u242 u243 u244 u245 u246 u247 u248 u249 u250 u251 u252 u253 u254 u255 u256 u257 u258, Mid w w' b sb ∧ a' = ⟨#[x0, undef, u2, .pointer (some ⟨b, 0, none⟩), .pointer (some ⟨sb, 0, none⟩), x5, .pointer (some ⟨xb, 0, none⟩), u7, u8, u9, u10, u11, u12, u13, u14, u15, u16, u17, u18, x19, x20, x21, x22, x23, x24, u25, u26, u27, u28, u29, u30, u31, u32, u33, u34, u35, u36, u37, u38, u39, u40, u41, u42, .int .i64 2, u44, u45, u46, u47, u48, u49, u50, u51, u52, u53, u54, u55, u56, u57, u58, u59, u60, u61, u62, u63, u64, u65, u66, u67, u68, u69, u70, u71, u72, u73, u74, u75, u76, u77, u78, u79, u80, u81, u82, u83, u84, u85, u86, u87, u88, u89, u90, u91, u92, u93, u94, u95, u96, u97, u98, u99, u100, u101, u102, u103, u104, u105, u106, u107, u108, u109, u110, u111, u112, u113, u114, u115, u116, u117, u118, u119, u120, u121, u122, u123, u124, u125, u126, u127, u128, u129, u130, u131, u132, u133, u134, u135, u136, u137, u138, u139, u140, u141, u142, u143, u144, u145, u146, u147, u148, u149, u150, u151, u152, u153, u154, u155, u156, u157, u158, u159, u160, u161, u162, u163, u164, u165, u166, u167, u168, u169, u170, u171, u172, u173, u174, u175, u176, u177, u178, u179, u180, u181, u182, u183, u184, u185, u186, u187, u188, u189, u190, u191, u192, u193, u194, u195, u196, u197, u198, u199, u200, u201, u202, u203, u204, u205, u206, u207, u208, u209, u210, u211, u212, u213, u214, u215, u216, u217, u218, u219, u220, u221, u222, u223, u224, u225, u226, u227, u228, u229, u230, u231, u232, u233, u234, u235, u236, u237, u238, u239, u240, u241, u242, u243, u244, u245, u246, u247, u248, u249, u250, u251, u252, u253, u254, u255, u256, u257, u258], []⟩) → J a' w') (hK : ∀ (a' : Act) (w' : World), Met J a' w' → K' a' w')
    (hbw : w.heap.size ≤ b) (hsb : b < sb) (hsx : sb < xb) (hx : W1.heap[xb]? = some (.cells d 33 (0, 0))) (hsl : W1.heap[sb]? = some (.cells (fC sl) 26 (0, 0))) (hh : IsH W1 b st e) (hag : Agree sl st) (hbel : Below w.heap.size w W1) (hd : DoR w d kind c F K gr time has fam now)
     :
    Code.wp Try.prog onceSw (Exit.then K' Q) ⟨#[x0, undef, u2, .pointer (some ⟨b, 0, none⟩), .pointer (some ⟨sb, 0, none⟩), x5, .pointer (some ⟨xb, 0, none⟩), u7, u8, u9, u10, u11, u12, u13, u14, u15, u16, u17, u18, x19, x20, x21, x22, x23, x24, u25, u26, u27, u28, u29, u30, u31, u32, u33, u34, u35, u36, u37, u38, u39, u40, u41, u42, .int .i64 2, u44, u45, u46, u47, u48, u49, u50, u51, u52, u53, u54, u55, u56, u57, u58, u59, u60, u61, u62, u63, u64, u65, u66, u67, u68, u69, u70, u71, u72, u73, u74, u75, u76, u77, u78, u79, u80, u81, u82, u83, u84, u85, u86, u87, u88, u89, u90, u91, u92, u93, u94, u95, u96, u97, u98, u99, u100, u101, u102, u103, u104, u105, u106, u107, u108, u109, u110, u111, u112, u113, u114, u115, u116, u117, u118, u119, u120, u121, u122, u123, u124, u125, u126, u127, u128, u129, u130, u131, u132, u133, u134, u135, u136, u137, u138, u139, u140, u141, u142, u143, u144, u145, u146, u147, u148, u149, u150, u151, u152, u153, u154, u155, u156, u157, u158, u159, u160, u161, u162, u163, u164, u165, u166, u167, u168, u169, u170, u171, u172, u173, u174, u175, u176, u177, u178, u179, u180, u181, u182, u183, u184, u185, u186, u187, u188, u189, u190, u191, u192, u193, u194, u195, u196, u197, u198, u199, u200, u201, u202, u203, u204, u205, u206, u207, u208, u209, u210, u211, u212, u213, u214, u215, u216, u217, u218, u219, u220, u221, u222, u223, u224, u225, u226, u227, u228, u229, u230, u231, u232, u233, u234, u235, u236, u237, u238, u239, u240, u241, u242, u243, u244, u245, u246, u247, u248, u249, u250, u251, u252, u253, u254, u255, u256, u257, u258], []⟩ W1 := by
  have hse : Ses W1 c F K gr time := hd.ses_.below hbel
  conv => arg 2; whnf
  have q12 : W1.cell? ⟨xb, 12, none⟩ = some (.int .i64 fam) := (cell_of_row _ _ _ _ _ _ hx).trans hd.fam_
  have hlb := hh.lt
  have hls := lt_of_block hsl
  have hlx := lt_of_block hx
  cases hin : inB fam with
  | true =>
    obtain ⟨a, rfl, a1, a5⟩ := inB_nat hin
    have i1 : (1 : Int) ≤ (a : Int) := by omega
    have i2 : (a : Int) ≤ 5 := by omega
    have HSL := Lib.hid hsl
    have HBEL := Lib.hid hbel
    have HAG := Lib.hid hag
    have HX := Lib.hid hx
    clear hsl hbel hag hin hse hd hx
    obtain ⟨v, hv⟩ : ∃ v, st a = v := ⟨_, rfl⟩
    have HV := Lib.hid hv
    clear hv
    go_wp2_with fail
    refine (end_in b a st e a1 a5 _ hh).mono ?_
    rintro e' w5 ⟨he, hh5, hb5⟩
    rw [HV.out] at he
    subst he
    go_simp
    have hx5 := (hb5.block _ hlx (by have := hsx; omega)).trans HX.out
    have hsl5 := (hb5.block _ hls (by omega)).trans HSL.out
    have q12b : w5.cell? ⟨xb, 12, none⟩ = some (.int .i64 (a : Int)) := (hb5.cell hlx (by have := hsx; omega)).trans q12
    have hst1 : w5.cell? ⟨sb, a, none⟩ = some (.bool v) := by rw [cell_of_row _ _ _ _ _ _ hsl5, fC_at _ _ (by omega), HAG.out a a1 a5, HV.out]
    have hfz : w5.frozen? ⟨sb, a, none⟩ = false := frozen_of_row _ _ _ _ _ hsl5
    have hbel5 := HBEL.out.trans (hb5.below (by omega) HBEL.out.size)
    have hmid2 : Mid w (w5.setCell ⟨sb, a, none⟩ (.bool false)) b sb := by
      refine ⟨upd st a false, upd sl a false, e, hh5.keep (heap_setCell_other _ _ _ _ (by show b ≠ sb; omega)), by rw [← fC_set _ _ a (by omega)]; exact set_heap hsl5, fun i h1 h5 => ?_, hbel5.setCell (by show w.heap.size ≤ sb; omega) _⟩
      unfold upd
      split
      · rfl
      · exact HAG.out i h1 h5
    have HM := Lib.hid hmid2
    clear hmid2 hh5 hb5 hx5 hsl5 hbel5 hh q12
    cases v
    all_goals
      go_wp2_with fail
      go_meet
      exact HM.out
  | false =>
    have HIN := Lib.hid hin
    have hmid2 : Mid w W1 b sb := ⟨st, sl, e, hh, hsl, hag, hbel⟩
    have HM := Lib.hid hmid2
    have h0 := hh.there
    clear hmid2 hh hsl hag hbel hse hd hx
    by_cases i1 : 1 ≤ fam
    · have i2 : ¬ fam ≤ 5 := by intro h; simp [inB, i1, h] at hin
      have d2 : decide (fam ≤ 5) = false := by simp; omega
      clear hin
      go_wp2_with fail
      refine (end_out b fam HIN.out _ h0).mono ?_
      rintro e' w5 ⟨rfl, rfl⟩
      go_simp
      go_wp2_with fail
      go_meet
      exact HM.out
    · have d1 : decide (1 ≤ fam) = false := by simp; omega
      clear hin
      go_wp2_with fail
      refine (end_out b fam HIN.out _ h0).mono ?_
      rintro e' w5 ⟨rfl, rfl⟩
      go_simp
      go_wp2_with fail
      go_meet
      exact HM.out
end Go.Proofs.Ytbkgipafikeccaa
