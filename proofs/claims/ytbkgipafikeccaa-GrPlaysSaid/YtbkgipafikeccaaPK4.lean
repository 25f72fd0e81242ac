/- GrPlays: the switch, kind 4. -/
import Derived.Test.YtbkgipafikeccaaPB
namespace Go.Proofs.Ytbkgipafikeccaa
open Go.RowKit
set_option linter.unusedVariables false

set_option maxHeartbeats 4000000 in
set_option maxRecDepth 100000 in
theorem plays_k4 {x0 x5 x23 x24 x25 x26 u2 u7 u8 u9 u10 u11 u12 u13 u14 u15 u16 u17 u18 u19 u20 u21 u22 u27 u28 u29 u30 u31 u32 u33 u34 u35 u36 u37 u38 u39 u40 u41 u42 u43 u44 u46 u47 u48 u49 u50 u51 u52 u53 u54 u55 u56 u57 u58 u59 u60 u61 u62 u63 u64 u65 u66 u67 u68 u69 u70 u71 u72 u73 u74 u75 u76 u77 u78 u79 u80 u81 u82 u83 u84 u85 u86 u87 u88 u89 u90 u91 u92 u93 u94 u95 u96 u97 u98 u99 u100 u101 u102 u103 u104 u105 u106 u107 u108 u109 u110 u111 u112 u113 u114 u115 u116 u117 u118 u119 u120 u121 u122 u123 u124 u125 u126 u127 u128 u129 u130 u131 u132 u133 u134 u135 u136 u137 u138 u139 u140 u141 u142 u143 u144 u145 u146 u147 u148 u149 u150 u151 u152 u153 u154 u155 u156 u157 u158 u159 u160 u161 u162 u163 u164 u165 u166 u167 u168 u169 u170 u171 u172 : Value} (w W1 : World) (b mb xb : Nat) (st : Nat → Bool) (e : Int) (v : Value) (d c : Array Value) (kind : Int) (F : List Int) (K : List (Int × Bool)) (gr : Bool) (time : Int) (has : Bool) (fam now : Int)
    (J K' : Act → World → Prop) (Q : Exit → Act → World → Prop)
    (hJ : ∀ (a' : Act) (w' : World), (∃ u2 u3 u7 u8 u9 u10 u11 u12 u13 u14 u15 u16 u17 u18 u19 u20 u21 u22 u27 u28 u29 u30 u31 u32 u33 u34 u35 u36 u37 u38 u39 u40 u41 u42 u43 u44 u46 u47 u48 u49 u50 u51 u52 u53 u54 u55 u56 u57 u58 u59 u60 u61 u62 u63 u64 u65 u66 u67 u68 u69 u70 u71 u72 u73 u74 u75 u76 u77 u78 u79 u80 u81 u82 u83 u84 u85 u86 u87 u88 u89 u90 u91 u92 u93 u94 u95 u96 u97 u98 u99 u100 u101 u102 u103 u104 u105 u106 u107 u108 u109 u110 u111 u112 u113 u114 u115 u116 u117 u118 u119 u120 u121 u122 u123 u124 u125 u126 u127 u128 u129 u130 u131 u132 u133 u134 u135 u136 u137 u138 u139 u140 u141 u142 u143 u144 u145 u146 u147 u148 u149 u150 u151 u152 u153 u154 u155 u156 u157 u158 u159 u160 u161 u162 u163 u164 u165 u166 u167 u168 u169 u170 u171 u172, (∃ (b : Nat) (st : Nat → Bool) (e : Int) (v : Value), u3 = .pointer (some ⟨b, 0, none⟩) ∧ MidP w w' b mb st e v) ∧ a' = ⟨#[x0, undef, u2, u3, .pointer (some ⟨mb, 0, none⟩), x5, .pointer (some ⟨xb, 0, none⟩), u7, u8, u9, u10, u11, u12, u13, u14, u15, u16, u17, u18, u19, u20, u21, u22, x23, x24, x25, x26, u27, u28, u29, u30, u31, u32, u33, u34, u35, u36, u37, u38, u39, u40, u41, u42, u43, u44, .int .i64 4, u46, u47, u48, u49, u50, u51, u52, u53, u54, u55, u56, u57, u58, u59, u60, u61, u62, u63, u64, u65, u66, u67, u68, u69, u70, u71, u72, u73, u74, u75, u76, u77, u78, u79, u80, u81, u82, u83, u84, u85, u86, u87, u88, u89, u90, u91, u92, u93, u94, u95, u96, u97, u98, u99, u100, u101, u102, u103, u104, u105, u106, u107, u108, u109, u110, u111, u112, u113, u114, u115, u116, u117, u118, u119, u120, u121, u122, u123, u124, u125, u126, u127, u128, u129, u130, u131, u132, u133, u134, u135, u136, u137, u138, u139, u140, u141, u142, u143, u144, u145, u146, u147, u148, u149, u150, u151, u152, u153, u154, u155, u156, u157, u158, u159, u160, u161, u162, u163, u164, u165, u166, u167, u168, u169, u170, u171, u172, undef, undef, undef, undef, undef, undef, undef, undef], []⟩) → J a' w') (hK : ∀ (a' : Act) (w' : World), Met J a' w' → K' a' w')
    (hx : W1.heap[xb]? = some (.cells d 33 (0, 0))) (hbx : b ≠ xb) (hmd : MidP w W1 b mb st e v) (hd : DoR w d kind c F K gr time has fam now)
     :
    Code.wp Try.prog playsSw (Exit.then K' Q) ⟨#[x0, undef, u2, .pointer (some ⟨b, 0, none⟩), .pointer (some ⟨mb, 0, none⟩), x5, .pointer (some ⟨xb, 0, none⟩), u7, u8, u9, u10, u11, u12, u13, u14, u15, u16, u17, u18, u19, u20, u21, u22, x23, x24, x25, x26, u27, u28, u29, u30, u31, u32, u33, u34, u35, u36, u37, u38, u39, u40, u41, u42, u43, u44, .int .i64 4, u46, u47, u48, u49, u50, u51, u52, u53, u54, u55, u56, u57, u58, u59, u60, u61, u62, u63, u64, u65, u66, u67, u68, u69, u70, u71, u72, u73, u74, u75, u76, u77, u78, u79, u80, u81, u82, u83, u84, u85, u86, u87, u88, u89, u90, u91, u92, u93, u94, u95, u96, u97, u98, u99, u100, u101, u102, u103, u104, u105, u106, u107, u108, u109, u110, u111, u112, u113, u114, u115, u116, u117, u118, u119, u120, u121, u122, u123, u124, u125, u126, u127, u128, u129, u130, u131, u132, u133, u134, u135, u136, u137, u138, u139, u140, u141, u142, u143, u144, u145, u146, u147, u148, u149, u150, u151, u152, u153, u154, u155, u156, u157, u158, u159, u160, u161, u162, u163, u164, u165, u166, u167, u168, u169, u170, u171, u172, undef, undef, undef, undef, undef, undef, undef, undef], []⟩ W1 := by
  have hse : Ses W1 c F K gr time := hd.ses_.below hmd.bel
  conv => arg 2; whnf
  have q13 : W1.cell? ⟨xb, 13, none⟩ = some (.int .u64 now) := (cell_of_row _ _ _ _ _ _ hx).trans hd.now_
  have hlx := lt_of_block hx
  have HX := Lib.hid hx
  have HMD := Lib.hid hmd
  have HD := Lib.hid hd
  have HSE := Lib.hid hse
  clear hx hmd hd hse
  go_wp2_with fail
  refine (copy_any b st e _ HMD.out.h).mono ?_
  rintro e' w5 ⟨rfl, hw5⟩
  have hc5 : IsH w5 W1.heap.size st e := hw5 ▸ isH_copy HMD.out.h.e0 HMD.out.h.e1
  have hb5 : Below W1.heap.size W1 w5 := hw5 ▸ (Below.refl _ _).alloc (Nat.le_refl _) _
  obtain ⟨cb, hcb⟩ : ∃ cb, W1.heap.size = cb := ⟨_, rfl⟩
  rw [hcb] at hc5 hlx ⊢
  have HMB : Hid (mb ≠ b) := fun h => HMD.out.bm h.symm
  have hcb1 : b < cb := hcb ▸ HMD.out.h.lt
  have hcb2 : mb < cb := hcb ▸ lt_of_block HMD.out.m
  have hown : Hid (∀ g, v.ownBlock = some g → w.heap.size ≤ g ∧ g < cb ∧ g ≠ b ∧ g ≠ mb) := fun g hg => hcb ▸ HMD.out.own g hg
  have hx5 := (hb5.block _ (by omega)).trans HX.out
  have hwb := HMD.out.b0
  have hwm := HMD.out.m0
  have hse5 := HSE.out.below hb5
  have HM5 := Lib.hid (HMD.out.below hb5)
  have HC5 := Lib.hid hc5
  have HX5 := Lib.hid hx5
  have HSE5 := Lib.hid hse5
  clear hw5 hc5 hb5 hx5 HX HMD hse5 HSE q13 hcb
  go_wp2_with fail
  refine (fire_play b 18446744073709551615 st e _ HM5.out.h).mono ?_
  rintro e' w6 ⟨vf, rfl, _, hh6, hb6⟩
  obtain ⟨m6, rd6, bel6⟩ := HM5.out.but (st' := st) (e' := e) hb6
  have hx6 := (hb6.block _ (lt_of_block HX5.out) (by omega)).trans HX5.out
  have hc6 := HC5.out.keep (hb6.block _ HC5.out.lt (by omega))
  have hse6 : Ses w6 c F K gr time := HD.out.ses_.below bel6
  have q13 : w6.cell? ⟨xb, 13, none⟩ = some (.int .u64 now) := (cell_of_row _ _ _ _ _ _ hx6).trans HD.out.now_
  have HRS : Hid (w6.rangeAt xb 1 c.toList) := by show World.rangeAt _ _ _ _; rw [← HD.out.ses]; exact World.rangeAt_of_block hx6 1 10
  have HSE6 := Lib.hid hse6
  have HH6 := Lib.hid hh6
  have HC6 := Lib.hid hc6
  have M6 := Lib.hid m6
  have RD6 := Lib.hid rd6
  have BEL6 := Lib.hid bel6
  clear hb6 hx6 hc6 hse6 hh6 m6 rd6 bel6 HM5 HC5 HX5 HSE5
  go_wp2_with (refine wpList_load_mid rfl 30 (.tmp 156) rfl xb 1 rfl c.toList _ HRS.out Try.underlying30 rfl (by rw [Array.length_toList, HSE6.out.size]; exact size30) ?_)
  refine (down_any b _ e c F K gr time now _ HH6.out HSE6.out HD.out.n1 HD.out.n2).mono ?_
  rintro r' w7 ⟨vk, vg, rfl, _, _, hh7, hb7⟩
  have hfin : MidP w w7 cb mb st e v :=
    ⟨HC6.out.keep (hb7.block _ HC6.out.lt (by omega)), (hb7.block _ (lt_of_block M6.out) (by have := HMB.out; omega)).trans M6.out, RD6.out.move fun g hg hl => hb7.block g hl (hown.out g hg).2.2.1,
      fun g hg => by have := hown.out g hg; have := HC6.out.lt; have := hb7.size; exact ⟨by omega, by omega, by omega, by omega⟩, by omega, hwm, by omega, BEL6.out.trans (hb7.below hwb BEL6.out.size)⟩
  have HF := Lib.hid hfin
  clear hfin hh7 hb7 HC6 HH6 M6 RD6 BEL6 HSE6 HRS HD hown q13
  go_wp2_with fail
  go_meet
  exact ⟨cb, st, e, v, rfl, HF.out⟩
end Go.Proofs.Ytbkgipafikeccaa
