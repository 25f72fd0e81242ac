/- GrPlays: the switch, kind 0. -/
import Derived.Test.YtbkgipafikeccaaPB
namespace Go.Proofs.Ytbkgipafikeccaa
open Go.RowKit
set_option linter.unusedVariables false

set_option maxHeartbeats 4000000 in
set_option maxRecDepth 100000 in
theorem plays_k0 {x0 x5 x23 x24 x25 x26 u2 u7 u8 u9 u10 u11 u12 u13 u14 u15 u16 u17 u18 u19 u20 u21 u22 u27 u28 u29 u30 u31 u32 u33 u34 u35 u36 u37 u38 u39 u40 u41 u42 u43 u44 u46 u47 u48 u49 u50 u51 u52 u53 u54 u55 u56 u57 u58 u59 u60 u61 u62 u63 u64 u65 u66 u67 u68 u69 u70 u71 u72 u73 u74 u75 u76 u77 u78 u79 u80 u81 u82 u83 u84 u85 u86 u87 u88 u89 u90 u91 u92 u93 u94 u95 u96 u97 u98 u99 u100 u101 u102 u103 u104 u105 u106 u107 u108 u109 u110 u111 u112 u113 u114 u115 u116 u117 u118 u119 u120 u121 u122 u123 u124 u125 u126 u127 u128 u129 u130 u131 u132 u133 u134 u135 u136 u137 u138 u139 u140 u141 u142 u143 u144 u145 u146 u147 u148 u149 u150 u151 u152 u153 u154 u155 u156 u157 u158 u159 u160 u161 u162 u163 u164 u165 u166 u167 u168 u169 u170 u171 u172 : Value} (w W1 : World) (b mb xb : Nat) (st : Nat → Bool) (e : Int) (v : Value) (d c : Array Value) (kind : Int) (F : List Int) (K : List (Int × Bool)) (gr : Bool) (time : Int) (has : Bool) (fam now : Int)
    (J K' : Act → World → Prop) (Q : Exit → Act → World → Prop)
    (hJ : ∀ (a' : Act) (w' : World), (∃ u2 u3 u7 u8 u9 u10 u11 u12 u13 u14 u15 u16 u17 u18 u19 u20 u21 u22 u27 u28 u29 u30 u31 u32 u33 u34 u35 u36 u37 u38 u39 u40 u41 u42 u43 u44 u46 u47 u48 u49 u50 u51 u52 u53 u54 u55 u56 u57 u58 u59 u60 u61 u62 u63 u64 u65 u66 u67 u68 u69 u70 u71 u72 u73 u74 u75 u76 u77 u78 u79 u80 u81 u82 u83 u84 u85 u86 u87 u88 u89 u90 u91 u92 u93 u94 u95 u96 u97 u98 u99 u100 u101 u102 u103 u104 u105 u106 u107 u108 u109 u110 u111 u112 u113 u114 u115 u116 u117 u118 u119 u120 u121 u122 u123 u124 u125 u126 u127 u128 u129 u130 u131 u132 u133 u134 u135 u136 u137 u138 u139 u140 u141 u142 u143 u144 u145 u146 u147 u148 u149 u150 u151 u152 u153 u154 u155 u156 u157 u158 u159 u160 u161 u162 u163 u164 u165 u166 u167 u168 u169 u170 u171 u172, (∃ (b : Nat) (st : Nat → Bool) (e : Int) (v : Value), u3 = .pointer (some ⟨b, 0, none⟩) ∧ MidP w w' b mb st e v) ∧ a' = ⟨#[x0, undef, u2, u3, .pointer (some ⟨mb, 0, none⟩), x5, .pointer (some ⟨xb, 0, none⟩), u7, u8, u9, u10, u11, u12, u13, u14, u15, u16, u17, u18, u19, u20, u21, u22, x23, x24, x25, x26, u27, u28, u29, u30, u31, u32, u33, u34, u35, u36, u37, u38, u39, u40, u41, u42, u43, u44, .int .i64 0, u46, u47, u48, u49, u50, u51, u52, u53, u54, u55, u56, u57, u58, u59, u60, u61, u62, u63, u64, u65, u66, u67, u68, u69, u70, u71, u72, u73, u74, u75, u76, u77, u78, u79, u80, u81, u82, u83, u84, u85, u86, u87, u88, u89, u90, u91, u92, u93, u94, u95, u96, u97, u98, u99, u100, u101, u102, u103, u104, u105, u106, u107, u108, u109, u110, u111, u112, u113, u114, u115, u116, u117, u118, u119, u120, u121, u122, u123, u124, u125, u126, u127, u128, u129, u130, u131, u132, u133, u134, u135, u136, u137, u138, u139, u140, u141, u142, u143, u144, u145, u146, u147, u148, u149, u150, u151, u152, u153, u154, u155, u156, u157, u158, u159, u160, u161, u162, u163, u164, u165, u166, u167, u168, u169, u170, u171, u172, undef, undef, undef, undef, undef, undef, undef, undef], []⟩) → J a' w') (hK : ∀ (a' : Act) (w' : World), Met J a' w' → K' a' w')
    (hx : W1.heap[xb]? = some (.cells d 33 (0, 0))) (hbx : b ≠ xb) (hmd : MidP w W1 b mb st e v) (hd : DoR w d kind c F K gr time has fam now)
     :
    Code.wp Try.prog playsSw (Exit.then K' Q) ⟨#[x0, undef, u2, .pointer (some ⟨b, 0, none⟩), .pointer (some ⟨mb, 0, none⟩), x5, .pointer (some ⟨xb, 0, none⟩), u7, u8, u9, u10, u11, u12, u13, u14, u15, u16, u17, u18, u19, u20, u21, u22, x23, x24, x25, x26, u27, u28, u29, u30, u31, u32, u33, u34, u35, u36, u37, u38, u39, u40, u41, u42, u43, u44, .int .i64 0, u46, u47, u48, u49, u50, u51, u52, u53, u54, u55, u56, u57, u58, u59, u60, u61, u62, u63, u64, u65, u66, u67, u68, u69, u70, u71, u72, u73, u74, u75, u76, u77, u78, u79, u80, u81, u82, u83, u84, u85, u86, u87, u88, u89, u90, u91, u92, u93, u94, u95, u96, u97, u98, u99, u100, u101, u102, u103, u104, u105, u106, u107, u108, u109, u110, u111, u112, u113, u114, u115, u116, u117, u118, u119, u120, u121, u122, u123, u124, u125, u126, u127, u128, u129, u130, u131, u132, u133, u134, u135, u136, u137, u138, u139, u140, u141, u142, u143, u144, u145, u146, u147, u148, u149, u150, u151, u152, u153, u154, u155, u156, u157, u158, u159, u160, u161, u162, u163, u164, u165, u166, u167, u168, u169, u170, u171, u172, undef, undef, undef, undef, undef, undef, undef, undef], []⟩ W1 := by
  have hse : Ses W1 c F K gr time := hd.ses_.below hmd.bel
  conv => arg 2; whnf
  have q13 : W1.cell? ⟨xb, 13, none⟩ = some (.int .u64 now) := (cell_of_row _ _ _ _ _ _ hx).trans hd.now_
  have hrs : W1.rangeAt xb 1 c.toList := by rw [← hd.ses]; exact World.rangeAt_of_block hx 1 10
  have HRS := Lib.hid hrs
  have hlx := lt_of_block hx
  have hlb := hmd.h.lt
  have hlm := lt_of_block hmd.m
  have hwz := hmd.bel.size
  have z := fun w => zeroM w
  obtain ⟨av, nv, cv, rfl⟩ := rd_form hmd.rd
  have HX := Lib.hid hx
  have HMD := Lib.hid hmd
  have HD := Lib.hid hd
  have HSE := Lib.hid hse
  clear hx hmd hd hse hrs
  go_wp2_with (refine wpList_load_mid rfl 30 (.tmp 50) rfl xb 1 rfl c.toList _ HRS.out Try.underlying30 rfl (by rw [Array.length_toList, HSE.out.size]; exact size30) ?_)
  refine (down_any b st e c F K gr time now _ HMD.out.h HSE.out HD.out.n1 HD.out.n2).mono ?_
  rintro e' w5 ⟨vk, vg, rfl, hk5, hg5, hh5, hb5⟩
  obtain ⟨m5, rd5, bel5⟩ := HMD.out.but (st' := st) (e' := e) hb5
  have hx5 := (hb5.block _ hlx (by omega)).trans HX.out
  have q13b : w5.cell? ⟨xb, 13, none⟩ = some (.int .u64 now) := (cell_of_row _ _ _ _ _ _ hx5).trans HD.out.now_
  have hrs5 : w5.rangeAt xb 1 c.toList := by rw [← HD.out.ses]; exact World.rangeAt_of_block hx5 1 10
  have HRS5 := Lib.hid hrs5
  have HSE5 := Lib.hid (HD.out.ses_.below bel5)
  have rk5 := own_rd hk5 rfl
  have rg5 := own_rd hg5 rfl
  have ik5 := own_ints hk5 (by have := famsOf_len (keepsP F K gr); omega)
  have ig5 := own_ints hg5 (by have := famsOf_len (goneP st F K gr); omega)
  have gek := own_ge hk5
  have geg := own_ge hg5
  have ltk := own_lt hk5
  have ltg := own_lt hg5
  obtain ⟨ak, nk, ck, rfl⟩ := rd_form rk5
  obtain ⟨ag, ng, cg, rfl⟩ := rd_form rg5
  have c40 : w5.cell? ⟨mb, 0, none⟩ = some (.slice av nv cv) := cell_of_row _ _ _ _ _ _ m5
  have c41 : w5.cell? ⟨mb, 1, none⟩ = some (.int .u64 e) := cell_of_row _ _ _ _ _ _ m5
  have RK5 := Lib.hid rk5
  have RG5 := Lib.hid rg5
  have IK5 := Lib.hid ik5
  have IG5 := Lib.hid ig5
  have GEK := Lib.hid gek
  have GEG := Lib.hid geg
  have LTK := Lib.hid ltk
  have LTG := Lib.hid ltg
  have HH5 := Lib.hid hh5
  have M5 := Lib.hid m5
  have RD5 := Lib.hid rd5
  have BEL5 := Lib.hid bel5
  have hz5 := hb5.size
  clear hk5 hg5 hh5 hb5 m5 rd5 bel5 hx5 rk5 rg5 ik5 ig5 gek geg ltk ltg q13 hrs5 HRS
  go_wp2_with (refine wpList_load_mid rfl 30 (.tmp 60) rfl xb 1 rfl c.toList _ HRS5.out Try.underlying30 rfl (by rw [Array.length_toList, HSE.out.size]; exact size30) ?_)
  refine (refDown_any _ st e c F K gr time now _ RD5.out HSE5.out HD.out.n1 HD.out.n2).mono ?_
  rintro e' w6 ⟨vn, vw, rfl, hb6, own6, rn6, rw6⟩
  obtain ⟨an, ln, cn, rfl⟩ := rd_form rn6
  obtain ⟨aw, lw, cw, rfl⟩ := rd_form rw6
  have hz6 := hb6.size
  have hpend := Pend.mk_alloc (w := w) (e' := atV (famsOf (keepsP F K gr)) time now) (HH5.out.keep (hb6.block b HH5.out.lt)) ((hb6.block _ (lt_of_block M5.out)).trans M5.out) rn6 (fun g hg => by have := own6 g hg; exact ⟨by omega, by omega, by omega, by omega⟩) HMD.out.b0 HMD.out.m0 HMD.out.bm (BEL5.out.trans (hb6.mono BEL5.out.size))
  have hal6 : Below w6.heap.size w6 (w6.alloc (.cells #[.slice an ln cn, .int .u64 (atV (famsOf (keepsP F K gr)) time now)] 48)) := (Below.refl _ _).alloc (Nat.le_refl _) _
  have rk6 := (RK5.out.below hb6).below hal6
  have rg6 := (RG5.out.below hb6).below hal6
  have rn6b := rn6.below hal6
  have rw6b := rw6.below hal6
  have ik6 := (IK5.out.move (fun g _ hl => hb6.block g hl)).move fun g _ hl => hal6.block g hl
  have ig6 := (IG5.out.move (fun g _ hl => hb6.block g hl)).move fun g _ hl => hal6.block g hl
  have hvk : ∀ g, (Value.slice ak nk ck).ownBlock = some g → w.heap.size ≤ g ∧ g ≠ b ∧ g ≠ mb ∧ g ≠ w6.heap.size ∧ (Value.slice an ln cn).ownBlock ≠ some g := fun g hg => by
    have h1 := GEK.out g hg
    have h2 := LTK.out g hg
    exact ⟨by omega, by omega, by omega, by omega, fun h => by have := own6 g h; omega⟩
  have hvg : ∀ g, (Value.slice ag ng cg).ownBlock = some g → w.heap.size ≤ g ∧ g ≠ b ∧ g ≠ mb ∧ g ≠ w6.heap.size ∧ (Value.slice an ln cn).ownBlock ≠ some g := fun g hg => by
    have h1 := GEG.out g hg
    have h2 := LTG.out g hg
    exact ⟨by omega, by omega, by omega, by omega, fun h => by have := own6 g h; omega⟩
  generalize atV (famsOf (keepsP F K gr)) time now = at_ at *
  have HP6 := Lib.hid hpend
  have RK6 := Lib.hid rk6
  have RG6 := Lib.hid rg6
  have RN6 := Lib.hid rn6b
  have RW6 := Lib.hid rw6b
  have IK6 := Lib.hid ik6
  have IG6 := Lib.hid ig6
  have HVK := Lib.hid hvk
  have HVG := Lib.hid hvg
  clear hb6 own6 rn6 rw6 hpend hal6 rk6 rg6 rn6b rw6b ik6 ig6 hvk hvg c40 c41 q13b RK5 RG5 IK5 IG5 GEK GEG LTK LTG HH5 M5 RD5 BEL5 HRS5 HSE5
  go_simp
  go_wp2_with fail
  obtain ⟨nb, hnbe⟩ : ∃ nb, w6.heap.size = nb := ⟨_, rfl⟩
  rw [hnbe] at HP6 HVK HVG ⊢
  clear z hnbe
  refine (same_any _ _ _ _ _ RK6.out RN6.out).mono ?_
  rintro e' w7 ⟨he, hs7⟩
  rw [eqB_self] at he
  subst he
  have HP7 := Lib.hid (HP6.out.still hs7)
  have IK7 := Lib.hid (IK6.out.still hs7)
  have IG7 := Lib.hid (IG6.out.still hs7)
  have RG7 := Lib.hid (RG6.out.below hs7.below)
  have RW7 := Lib.hid (RW6.out.below hs7.below)
  clear HP6 IK6 IG6 RK6 RN6 RG6 RW6 hs7
  go_wp2_with fail
  refine (same_any _ _ _ _ _ RG7.out RW7.out).mono ?_
  rintro e' w8 ⟨he, hs8⟩
  rw [eqB_self] at he
  subst he
  have HP8 := Lib.hid (HP7.out.still hs8)
  have IK8 := Lib.hid (IK7.out.still hs8)
  have IG8 := Lib.hid (IG7.out.still hs8)
  clear HP7 IK7 IG7 RG7 RW7 hs8
  go_wp2_with fail
  refine (spoil_keep _ _ _ IK8.out IG8.out).mono ?_
  rintro e' w9 ⟨rfl, ⟨g9, hb9, hg9⟩, ig9⟩
  have HP9 := Lib.hid (HP8.out.spoilt hb9 hg9 HVK.out)
  have IG9 := Lib.hid ig9
  clear HP8 IK8 IG8 hb9 hg9 HVK ig9
  go_wp2_with fail
  refine (spoil_keep _ (.slice none 0 0) _ IG9.out (IntRow.nil _)).mono ?_
  rintro e' w10 ⟨rfl, ⟨g10, hb10, hg10⟩, _⟩
  have HP10 := Lib.hid (HP9.out.spoilt hb10 hg10 HVG.out)
  clear HP9 IG9 hb10 hg10 HVG
  have hm9 := HP10.out.hm
  have hn9 := HP10.out.hn
  have c0 : w10.cell? ⟨mb, 0, none⟩ = some (.slice av nv cv) := cell_of_row _ _ _ _ _ _ hm9
  have c1 : w10.cell? ⟨mb, 1, none⟩ = some (.int .u64 e) := cell_of_row _ _ _ _ _ _ hm9
  have f0 := frozen_of_row _ _ 0 _ _ hm9
  have f1 := frozen_of_row _ _ 1 _ _ hm9
  have c2 : w10.cell? ⟨nb, 0, none⟩ = some (.slice an ln cn) := cell_of_row _ _ _ _ _ _ hn9
  have c3 : w10.cell? ⟨nb, 1, none⟩ = some (.int .u64 at_) := cell_of_row _ _ _ _ _ _ hn9
  have HF := Lib.hid HP10.out.next
  clear hm9 hn9 HP10
  go_wp2_with fail
  go_meet
  exact ⟨b, _, _, _, rfl, HF.out⟩
end Go.Proofs.Ytbkgipafikeccaa
