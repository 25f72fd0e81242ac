/- GrPlays: the switch, kind 2. -/
import Derived.Test.YtbkgipafikeccaaPB
namespace Go.Proofs.Ytbkgipafikeccaa
open Go.RowKit
set_option linter.unusedVariables false

set_option maxHeartbeats 4000000 in
set_option maxRecDepth 100000 in
theorem plays_k2 {x0 x5 x23 x24 x25 x26 u2 u7 u8 u9 u10 u11 u12 u13 u14 u15 u16 u17 u18 u19 u20 u21 u22 u27 u28 u29 u30 u31 u32 u33 u34 u35 u36 u37 u38 u39 u40 u41 u42 u43 u44 u46 u47 u48 u49 u50 u51 u52 u53 u54 u55 u56 u57 u58 u59 u60 u61 u62 u63 u64 u65 u66 u67 u68 u69 u70 u71 u72 u73 u74 u75 u76 u77 u78 u79 u80 u81 u82 u83 u84 u85 u86 u87 u88 u89 u90 u91 u92 u93 u94 u95 u96 u97 u98 u99 u100 u101 u102 u103 u104 u105 u106 u107 u108 u109 u110 u111 u112 u113 u114 u115 u116 u117 u118 u119 u120 u121 u122 u123 u124 u125 u126 u127 u128 u129 u130 u131 u132 u133 u134 u135 u136 u137 u138 u139 u140 u141 u142 u143 u144 u145 u146 u147 u148 u149 u150 u151 u152 u153 u154 u155 u156 u157 u158 u159 u160 u161 u162 u163 u164 u165 u166 u167 u168 u169 u170 u171 u172 : Value} (w W1 : World) (b mb xb : Nat) (st : Nat → Bool) (e : Int) (v : Value) (d c : Array Value) (kind : Int) (F : List Int) (K : List (Int × Bool)) (gr : Bool) (time : Int) (has : Bool) (fam now : Int)
    (J K' : Act → World → Prop) (Q : Exit → Act → World → Prop)
    (hJ : ∀ (a' : Act) (w' : World), (∃ u2 u3 u7 u8 u9 u10 u11 u12 u13 u14 u15 u16 u17 u18 u19 u20 u21 u22 u27 u28 u29 u30 u31 u32 u33 u34 u35 u36 u37 u38 u39 u40 u41 u42 u43 u44 u46 u47 u48 u49 u50 u51 u52 u53 u54 u55 u56 u57 u58 u59 u60 u61 u62 u63 u64 u65 u66 u67 u68 u69 u70 u71 u72 u73 u74 u75 u76 u77 u78 u79 u80 u81 u82 u83 u84 u85 u86 u87 u88 u89 u90 u91 u92 u93 u94 u95 u96 u97 u98 u99 u100 u101 u102 u103 u104 u105 u106 u107 u108 u109 u110 u111 u112 u113 u114 u115 u116 u117 u118 u119 u120 u121 u122 u123 u124 u125 u126 u127 u128 u129 u130 u131 u132 u133 u134 u135 u136 u137 u138 u139 u140 u141 u142 u143 u144 u145 u146 u147 u148 u149 u150 u151 u152 u153 u154 u155 u156 u157 u158 u159 u160 u161 u162 u163 u164 u165 u166 u167 u168 u169 u170 u171 u172, (∃ (b : Nat) (st : Nat → Bool) (e : Int) (v : Value), u3 = .pointer (some ⟨b, 0, none⟩) ∧ MidP w w' b mb st e v) ∧ a' = ⟨#[x0, undef, u2, u3, .pointer (some ⟨mb, 0, none⟩), x5, .pointer (some ⟨xb, 0, none⟩), u7, u8, u9, u10, u11, u12, u13, u14, u15, u16, u17, u18, u19, u20, u21, u22, x23, x24, x25, x26, u27, u28, u29, u30, u31, u32, u33, u34, u35, u36, u37, u38, u39, u40, u41, u42, u43, u44, .int .i64 2, u46, u47, u48, u49, u50, u51, u52, u53, u54, u55, u56, u57, u58, u59, u60, u61, u62, u63, u64, u65, u66, u67, u68, u69, u70, u71, u72, u73, u74, u75, u76, u77, u78, u79, u80, u81, u82, u83, u84, u85, u86, u87, u88, u89, u90, u91, u92, u93, u94, u95, u96, u97, u98, u99, u100, u101, u102, u103, u104, u105, u106, u107, u108, u109, u110, u111, u112, u113, u114, u115, u116, u117, u118, u119, u120, u121, u122, u123, u124, u125, u126, u127, u128, u129, u130, u131, u132, u133, u134, u135, u136, u137, u138, u139, u140, u141, u142, u143, u144, u145, u146, u147, u148, u149, u150, u151, u152, u153, u154, u155, u156, u157, u158, u159, u160, u161, u162, u163, u164, u165, u166, u167, u168, u169, u170, u171, u172, undef, undef, undef, undef, undef, undef, undef, undef], []⟩) → J a' w') (hK : ∀ (a' : Act) (w' : World), Met J a' w' → K' a' w')
    (hx : W1.heap[xb]? = some (.cells d 33 (0, 0))) (hbx : b ≠ xb) (hmd : MidP w W1 b mb st e v) (hd : DoR w d kind c F K gr time has fam now)
     :
    Code.wp Try.prog playsSw (Exit.then K' Q) ⟨#[x0, undef, u2, .pointer (some ⟨b, 0, none⟩), .pointer (some ⟨mb, 0, none⟩), x5, .pointer (some ⟨xb, 0, none⟩), u7, u8, u9, u10, u11, u12, u13, u14, u15, u16, u17, u18, u19, u20, u21, u22, x23, x24, x25, x26, u27, u28, u29, u30, u31, u32, u33, u34, u35, u36, u37, u38, u39, u40, u41, u42, u43, u44, .int .i64 2, u46, u47, u48, u49, u50, u51, u52, u53, u54, u55, u56, u57, u58, u59, u60, u61, u62, u63, u64, u65, u66, u67, u68, u69, u70, u71, u72, u73, u74, u75, u76, u77, u78, u79, u80, u81, u82, u83, u84, u85, u86, u87, u88, u89, u90, u91, u92, u93, u94, u95, u96, u97, u98, u99, u100, u101, u102, u103, u104, u105, u106, u107, u108, u109, u110, u111, u112, u113, u114, u115, u116, u117, u118, u119, u120, u121, u122, u123, u124, u125, u126, u127, u128, u129, u130, u131, u132, u133, u134, u135, u136, u137, u138, u139, u140, u141, u142, u143, u144, u145, u146, u147, u148, u149, u150, u151, u152, u153, u154, u155, u156, u157, u158, u159, u160, u161, u162, u163, u164, u165, u166, u167, u168, u169, u170, u171, u172, undef, undef, undef, undef, undef, undef, undef, undef], []⟩ W1 := by
  have hse : Ses W1 c F K gr time := hd.ses_.below hmd.bel
  conv => arg 2; whnf
  have q12 : W1.cell? ⟨xb, 12, none⟩ = some (.int .i64 fam) := (cell_of_row _ _ _ _ _ _ hx).trans hd.fam_
  have hlx := lt_of_block hx
  have hls := famsOf_len st
  have z := fun w => zeroM w
  obtain ⟨av, nv, cv, rfl⟩ := rd_form hmd.rd
  have c40 : W1.cell? ⟨mb, 0, none⟩ = some (.slice av nv cv) := cell_of_row _ _ _ _ _ _ hmd.m
  have c41 : W1.cell? ⟨mb, 1, none⟩ = some (.int .u64 e) := cell_of_row _ _ _ _ _ _ hmd.m
  have HX := Lib.hid hx
  have HMD := Lib.hid hmd
  clear hx hmd hd hse
  go_wp2_with fail
  refine (refEnded_any _ (nums (famsOf st)) e fam _ (by rw [nums_len]; omega) HMD.out.rd).mono ?_
  rintro e' w5 ⟨v5, rfl, ho5, hb5⟩
  have hm5 := HMD.out.below hb5
  have hx5 := (hb5.block _ hlx).trans HX.out
  have q12b : w5.cell? ⟨xb, 12, none⟩ = some (.int .i64 fam) := (hb5.cell hlx).trans q12
  have hbl := but_len fam (nums (famsOf st))
  rw [nums_len] at hbl
  have rd5 : Rd w5 v5 (but fam (nums (famsOf st))) := rd_iv ho5 (by omega)
  have ge5 := own_ge ho5
  have lt5 := own_lt ho5
  obtain ⟨a5, n5, c5, rfl⟩ := rd_form rd5
  have HM5 := Lib.hid hm5
  have RD5 := Lib.hid rd5
  have GE5 := Lib.hid ge5
  have LT5 := Lib.hid lt5
  have hlx5 := lt_of_block hx5
  clear ho5 hb5 hm5 hx5 hbl rd5 ge5 lt5 c40 c41 q12
  go_simp
  have hm5b : Hid (MidP w (w5.alloc (.cells #[.slice a5 n5 c5, .int .u64 e] 48)) b mb st e (.slice av nv cv)) := HM5.out.below ((Below.refl _ _).alloc (Nat.le_refl _) _)
  have q12c : (w5.alloc (.cells #[.slice a5 n5 c5, .int .u64 e] 48)).cell? ⟨xb, 12, none⟩ = some (.int .i64 fam) := ((Below.refl w5.heap.size w5).alloc (Nat.le_refl _) _).cell hlx5 |>.trans q12b
  have hnb := heap_alloc_new w5 (.cells #[.slice a5 n5 c5, .int .u64 e] 48)
  have hlW : w5.heap.size < (w5.alloc (.cells #[.slice a5 n5 c5, .int .u64 e] 48)).heap.size := by simp
  have hown : Hid (∀ g, (Value.slice a5 n5 c5).ownBlock = some g → w.heap.size ≤ g ∧ g < w5.heap.size ∧ g ≠ b ∧ g ≠ mb) := fun g hg => by
    have h1 := GE5.out g hg
    have h2 := LT5.out g hg
    have h3 := HMD.out.h.lt
    have h4 := lt_of_block HMD.out.m
    have h5 := HMD.out.bel.size
    exact ⟨by omega, h2, by omega, by omega⟩
  have hrd : Rd (w5.alloc (.cells #[.slice a5 n5 c5, .int .u64 e] 48)) (.slice a5 n5 c5) (nums (famsOf (endS st fam))) := by
    rw [← but_endS]; exact RD5.out.below ((Below.refl _ _).alloc (Nat.le_refl _) _)
  have HRD := Lib.hid hrd
  have HNB := Lib.hid hnb
  have hlb5 := HM5.out.h.lt
  have hlm5 := lt_of_block HM5.out.m
  obtain ⟨dv, hdv⟩ : ∃ dv, decide ((but fam (nums (famsOf st))).length < (nums (famsOf st)).length) = dv := ⟨_, rfl⟩
  have HDV := Lib.hid hdv
  rw [hdv]
  clear HM5 RD5 GE5 LT5 hnb q12b hrd hdv hlx hls HX
  go_wp2_with fail
  obtain ⟨nb, hnbe⟩ : ∃ nb, w5.heap.size = nb := ⟨_, rfl⟩
  rw [hnbe] at hlW hlb5 hlm5 HNB ⊢
  clear z
  refine (end_play b fam st e _ hm5b.out.h).mono ?_
  rintro e' w7 ⟨he, hh7, hb7⟩
  rw [HDV.out] at he
  subst he
  obtain ⟨m7, _, bel7⟩ := hm5b.out.but (st' := st) (e' := e) hb7
  have hn7 := (hb7.block _ hlW (by omega)).trans HNB.out
  have hrd7 := HRD.out.move fun g hg hl => hb7.block g hl (hown.out g hg).2.2.1
  have c0 : w7.cell? ⟨mb, 0, none⟩ = some (.slice av nv cv) := cell_of_row _ _ _ _ _ _ m7
  have c1 : w7.cell? ⟨mb, 1, none⟩ = some (.int .u64 e) := cell_of_row _ _ _ _ _ _ m7
  have f0 := frozen_of_row _ _ 0 _ _ m7
  have f1 := frozen_of_row _ _ 1 _ _ m7
  have c2 : w7.cell? ⟨nb, 0, none⟩ = some (.slice a5 n5 c5) := cell_of_row _ _ _ _ _ _ hn7
  have c3 : w7.cell? ⟨nb, 1, none⟩ = some (.int .u64 e) := cell_of_row _ _ _ _ _ _ hn7
  have hfin := MidP.next hh7 m7 hrd7 (fun g hg => by have := hown.out g hg; have := hb7.size; exact ⟨by omega, by omega, by omega, by omega⟩) HMD.out.b0 HMD.out.m0 HMD.out.bm bel7
  have HF := Lib.hid hfin
  clear hh7 hb7 m7 bel7 hn7 hrd7 hfin hm5b HMD q12c HNB HRD
  go_wp2_with fail
  go_meet
  exact ⟨b, _, _, _, rfl, HF.out⟩
end Go.Proofs.Ytbkgipafikeccaa
