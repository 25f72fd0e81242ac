/- The walk of GrKnown. -/
import Derived.Test.YtbkgipafikeccaaZ
import Derived.Test.YtbkgipafikeccaaX
namespace Go.Proofs.Ytbkgipafikeccaa
open Go.RowKit
set_option linter.unusedVariables false

theorem Rd.but {w w' : World} {v : Value} {L : List Int} {b : Nat} (h : Rd w v L) (hv : v.ownBlock ≠ some b) (hb : But b w w') : Rd w' v L := h.move fun g hg hl => hb.block g hl (fun e => hv (by rw [hg, e]))

theorem But.setNew {b g : Nat} {v w : World} (h : But b v w) (hg : v.heap.size ≤ g) (o : Nat) (u : Value) : But b v (w.setCell ⟨g, o, none⟩ u) :=
  ⟨h.os, h.tape, h.output, by rw [World.size_setCell]; exact h.size, fun k hk hn => by rw [heap_setCell_other _ _ _ _ (by show k ≠ g; omega)]; exact h.block k hk hn⟩

def s1 : Nat → Bool := keepsP Fs Ks true
def s2 : Nat → Bool := dropL s1 (famsOf s1)
def s3 : Nat → Bool := dropL s2 (famsOf s2)
def s4 : Nat → Bool := keepsP Fs Ks false
theorem kn1 : famsOf s1 = [1, 3] := by decide
theorem kn2 : famsOf s2 = [] := by decide
theorem kn4 : famsOf (keepsP Fs Ks false) = [] := by decide
theorem kn5 : famsOf (goneP s3 Fs Ks false) = [1, 2, 3] := by decide
theorem kn6 : atV (famsOf (keepsP Fs Ks false)) 120 10 = 0 := by decide
theorem kn7 : famsOf (goneU s1 Fs Ks false) = [1, 3] := by decide
theorem kn8 : famsOf (dropL s1 (famsOf (goneU s1 Fs Ks false))) = [] := by decide
def Fl : List Int := [2]
theorem kn9 : famsOf (keepsP Fl Ks true) = [] := by decide
theorem kn10 : famsOf (goneP s1 Fl Ks true) = [1, 2, 3] := by decide
theorem kn11 : atV (famsOf (keepsP Fl Ks true)) 120 5 = 0 := by decide
theorem kn12 : atV (famsOf (keepsP Fs Ks true)) 120 18446744073709551615 = 18446744073709551615 := by decide +kernel
theorem kn13 : atV (famsOf (keepsP Fs Ks true)) (-5) 7 = 7 := by decide +kernel
theorem size30 : (Try.prog.info? 30).map (·.size) = some 10 := by kernel_rfl

set_option maxHeartbeats 16000000 in
set_option maxRecDepth 100000 in
theorem known_walk (w : World) : Calls Try.prog 6 #[] w fun e w' => e = .returned (.bool true) ∧ Below w.heap.size w w' := by
  go_enter Try.func6, Try.ntmps6
  go_wp2_with fail
  refine (new_any _).mono ?_
  rintro e w1 ⟨rfl, hw1⟩
  have hh : IsH w1 w.heap.size nil0 0 := hw1 ▸ isH_new w
  have hbel : Below w.heap.size w w1 := hw1 ▸ (Below.refl _ _).alloc (Nat.le_refl _) _
  clear hw1
  go_wp2_with fail
  refine (session_any _).mono ?_
  rintro e w2 ⟨c1, rfl, hs, hb⟩
  replace hh := hh.keep (hb.block _ hh.lt)
  replace hbel := hbel.trans (hb.mono hbel.size)
  clear hb
  go_wp2_with fail
  refine (down_any w.heap.size nil0 0 c1 Fs Ks true (120) 10 _ hh hs (by omega) (by omega)).mono ?_
  rintro e w3 ⟨vk, vg, rfl, hk, hg, hhn, hb⟩
  rw [fk3] at hhn
  rw [fk3]
  obtain ⟨ak, ck, rfl⟩ := own_form hk
  obtain ⟨ag, cg, rfl⟩ := own_form hg
  replace hbel := hbel.trans (hb.below (Nat.le_refl _) hbel.size)
  have hh : IsH w3 w.heap.size s1 130 := hhn
  clear hk hg hb hhn hs
  go_wp2_with fail
  refine (fire_before _ 129 _ _ (by omega) _ hh).mono ?_
  rintro e w' ⟨rfl, rfl⟩
  go_wp2_with fail
  refine (is_none _ _ (rd_nil _)).mono ?_
  rintro e w4 ⟨rfl, hb⟩
  replace hh := hh.keep (hb.block _ hh.lt)
  replace hbel := hbel.trans (hb.mono hbel.size)
  clear hb
  go_wp2_with fail
  refine (fire_behind _ 130 _ _ (by omega) _ hh).mono ?_
  rintro e w5 ⟨v, rfl, ho, hhn, hb⟩
  have rv := own_rd ho kn1
  replace hbel := hbel.trans (hb.below (Nat.le_refl _) hbel.size)
  have hh : IsH w5 w.heap.size s2 130 := hhn
  clear ho hhn hb
  go_wp2_with fail
  refine (is_yes v [1, 3] _ rv (by decide)).mono ?_
  rintro e w6 ⟨rfl, hb⟩
  replace hh := hh.keep (hb.block _ hh.lt)
  replace hbel := hbel.trans (hb.mono hbel.size)
  clear hb
  clear rv
  go_wp2_with fail
  refine (fire_behind _ 131 _ _ (by omega) _ hh).mono ?_
  rintro e w7 ⟨v, rfl, ho, hhn, hb⟩
  have rv := own_rd ho kn2
  replace hbel := hbel.trans (hb.below (Nat.le_refl _) hbel.size)
  have hh : IsH w7 w.heap.size s3 130 := hhn
  clear ho hhn hb
  go_wp2_with fail
  refine (is_none v _ rv).mono ?_
  rintro e w8 ⟨rfl, hb⟩
  replace hh := hh.keep (hb.block _ hh.lt)
  replace hbel := hbel.trans (hb.mono hbel.size)
  clear hb
  clear rv
  go_wp2_with fail
  refine (session_any _).mono ?_
  rintro e w9 ⟨c2, rfl, hs, hb⟩
  replace hh := hh.keep (hb.block _ hh.lt)
  replace hbel := hbel.trans (hb.mono hbel.size)
  clear hb
  have HSZ := Lib.hid hs.size
  have HON := Lib.hid hs.one
  have hc6 := hs.hasGR
  go_wp2_with (first
    | (refine wpList_store_row rfl 30 (.tmp 2) (.tmp 44) rfl w9.heap.size c2 rfl rfl 30 _ (heap_alloc_new _ _) (by rw [HSZ.out]; exact size30) (by rw [HSZ.out]; rfl) HON.out ?_; rw [setRow_alloc_new])
    | (refine wpList_load_row rfl 30 (.tmp 2) rfl w9.heap.size rfl 30 (c2.setIfInBounds 6 (.bool false)) (0, 0) _ (heap_alloc_new _ _) Try.underlying30 rfl (by simp only [Array.size_setIfInBounds]; rw [HSZ.out]; exact size30) ?_))
  have hal : Below w9.heap.size w9 (w9.alloc (.cells (c2.setIfInBounds 6 (.bool false)) 30)) := (Below.refl _ _).alloc (Nat.le_refl _) _
  refine (down_any _ s3 130 _ Fs Ks false 120 10 _ (hh.keep (hal.block _ hh.lt)) ((hs.setGR false).below hal) (by omega) (by omega)).mono ?_
  rintro e w10 ⟨vk, vg, rfl, hk, hg, hhn, hb⟩
  rw [kn6] at hhn
  rw [kn6]
  have rk := own_rd hk kn4
  have rg := own_rd hg kn5
  have hh : IsH w10 w.heap.size s4 0 := hhn
  replace hbel := (hbel.trans (hal.mono hbel.size)).trans (hb.below (Nat.le_refl _) (by have := hbel.size; simp; omega))
  clear hk hg hb hhn hs hal hc6 HSZ HON
  go_wp2_with fail
  refine (is_none vk _ rk).mono ?_
  rintro e w11 ⟨rfl, hb⟩
  replace hh := hh.keep (hb.block _ hh.lt)
  replace rg := rg.below hb
  replace hbel := hbel.trans (hb.mono hbel.size)
  clear hb
  clear rk
  go_wp2_with fail
  refine (is_yes vg [1, 2, 3] _ rg (by decide)).mono ?_
  rintro e w12 ⟨rfl, hb⟩
  replace hh := hh.keep (hb.block _ hh.lt)
  replace hbel := hbel.trans (hb.mono hbel.size)
  clear hb
  clear rg
  go_wp2_with fail
  refine (session_any _).mono ?_
  rintro e w13 ⟨c3, rfl, hs, hb⟩
  replace hh := hh.keep (hb.block _ hh.lt)
  replace hbel := hbel.trans (hb.mono hbel.size)
  clear hb
  go_wp2_with fail
  refine (down_any _ s4 0 _ Fs Ks true 120 10 _ hh hs (by omega) (by omega)).mono ?_
  rintro e w14 ⟨vk, vg, rfl, hk, hg, hhn, hb⟩
  rw [fk3] at hhn
  rw [fk3]
  have hh : IsH w14 w.heap.size s1 130 := hhn
  replace hbel := hbel.trans (hb.below (Nat.le_refl _) hbel.size)
  clear hk hg hb hhn hs
  go_wp2_with fail
  refine (copy_any _ _ _ _ hh).mono ?_
  rintro e w15 ⟨rfl, hw⟩
  have hb : Below w14.heap.size w14 w15 := hw ▸ (Below.refl _ _).alloc (Nat.le_refl _) _
  have hhc : IsH w15 w14.heap.size s1 130 := hw ▸ isH_copy (by omega) (by omega)
  have hne : w.heap.size < w14.heap.size := hh.lt
  replace hh := hh.keep (hb.block _ hh.lt)
  replace hbel := hbel.trans (hb.mono hbel.size)
  obtain ⟨bc, hbc⟩ : ∃ bc, w14.heap.size = bc := ⟨_, rfl⟩
  rw [hbc] at hhc hne
  rw [hbc]
  clear hw hb hbc
  go_wp2_with fail
  refine (session_any _).mono ?_
  rintro e w16 ⟨c4, rfl, hs, hb⟩
  replace hh := hh.keep (hb.block _ hh.lt)
  replace hhc := hhc.keep (hb.block _ hhc.lt)
  replace hbel := hbel.trans (hb.mono hbel.size)
  clear hb
  go_wp2_with fail
  refine (up_any _ s1 130 _ _ false Fs Ks true 120 _ hh hs rfl).mono ?_
  rintro e w17 ⟨v, rfl, ho, hhn, hb⟩
  have rv := own_rd ho kn7
  replace hhc := hhc.keep (hb.block _ hhc.lt (by omega))
  replace hbel := hbel.trans (hb.below (Nat.le_refl _) hbel.size)
  clear ho hb hs hh
  go_wp2_with fail
  refine (is_yes v [1, 3] _ rv (by decide)).mono ?_
  rintro e w18 ⟨rfl, hb⟩
  replace hhn := hhn.keep (hb.block _ hhn.lt)
  replace hhc := hhc.keep (hb.block _ hhc.lt)
  replace hbel := hbel.trans (hb.mono hbel.size)
  clear hb
  clear rv
  go_wp2_with fail
  refine (stale_any _ _ _ _ hhn).mono ?_
  rintro e w19 ⟨v, rfl, hn⟩
  have rv := own_rd hn.1 kn8
  clear hhn
  have hb := hn.2
  replace hhc := hhc.keep (hb.block _ hhc.lt)
  replace hbel := hbel.trans (hb.mono hbel.size)
  clear hn hb
  go_wp2_with fail
  refine (is_none v _ rv).mono ?_
  rintro e w20 ⟨rfl, hb⟩
  replace hhc := hhc.keep (hb.block _ hhc.lt)
  replace hbel := hbel.trans (hb.mono hbel.size)
  clear hb
  clear rv
  go_wp2_with fail
  refine (stale_any _ _ _ _ hhc).mono ?_
  rintro e w21 ⟨v, rfl, hn⟩
  have rv := own_rd hn.1 kn1
  have hb := hn.2
  replace hhc := hhc.keep (hb.block _ hhc.lt)
  replace hbel := hbel.trans (hb.mono hbel.size)
  clear hn hb
  go_wp2_with fail
  refine (is_yes v [1, 3] _ rv (by decide)).mono ?_
  rintro e w22 ⟨rfl, hb⟩
  replace hhc := hhc.keep (hb.block _ hhc.lt)
  replace hbel := hbel.trans (hb.mono hbel.size)
  clear hb
  clear rv
  go_wp2_with fail
  refine (session_any _).mono ?_
  rintro e w23 ⟨c5, rfl, hs, hb⟩
  replace hhc := hhc.keep (hb.block _ hhc.lt)
  replace hbel := hbel.trans (hb.mono hbel.size)
  clear hb
  have HSZ := Lib.hid hs.size
  have HON := Lib.hid hs.one
  obtain ⟨fs5, hc1, _⟩ := hs.fams
  go_wp2_with (first
    | (refine wpList_store_row rfl 30 (.tmp 7) (.tmp 91) rfl w23.heap.size c5 rfl rfl 30 _ (heap_alloc_new _ _) (by rw [HSZ.out]; exact size30) (by rw [HSZ.out]; rfl) HON.out ?_; rw [setRow_alloc_new])
    | (refine wpList_load_row rfl 30 (.tmp 7) rfl w23.heap.size rfl 30 (c5.setIfInBounds 1 (.slice (some ⟨w23.heap.size + 1, 0, none⟩) 1 1)) (0, 0) _ (heap_alloc2_old _ _ _) Try.underlying30 rfl (by simp only [Array.size_setIfInBounds]; rw [HSZ.out]; exact size30) ?_))
  have hal : Below w23.heap.size w23 ((w23.alloc (.cells (c5.setIfInBounds 1 (.slice (some ⟨w23.heap.size + 1, 0, none⟩) 1 1)) 30)).alloc (.cells #[.int .i64 2] 3)) := ((Below.refl _ _).alloc (Nat.le_refl _) _).alloc (by simp) _
  have hrd : Rd ((w23.alloc (.cells (c5.setIfInBounds 1 (.slice (some ⟨w23.heap.size + 1, 0, none⟩) 1 1)) 30)).alloc (.cells #[.int .i64 2] 3)) (.slice (some ⟨w23.heap.size + 1, 0, none⟩) 1 1) Fl := by
    have := rd_new (w23.alloc (.cells (c5.setIfInBounds 1 (.slice (some ⟨w23.heap.size + 1, 0, none⟩) 1 1)) 30)) [2] (by decide)
    show Rd _ _ [2]
    simpa using this
  refine (down_any _ s1 130 _ Fl Ks true 120 5 _ (hhc.keep (hal.block _ hhc.lt)) ((hs.below hal).setFams _ _ _ hrd) (by omega) (by omega)).mono ?_
  rintro e w24 ⟨vk, vg, rfl, hk, hg, hhn, hb⟩
  rw [kn11] at hhn
  rw [kn11]
  have rk := own_rd hk kn9
  have rg := own_rd hg kn10
  have hsb := hbel.size
  have nk : vk.ownBlock ≠ some bc := fun e => by have := own_ge hk bc e; have := hhc.lt; simp at *; omega
  have ng : vg.ownBlock ≠ some bc := fun e => by have := own_ge hg bc e; have := hhc.lt; simp at *; omega
  replace hbel := (hbel.trans (hal.mono hbel.size)).trans (hb.below (Nat.le_of_lt hne) (by simp; omega))
  clear hk hg hb hs hal hc1 HSZ HON hrd hhc hsb
  go_wp2_with fail
  refine (session_full _).mono ?_
  rintro e w25 ⟨c6, rfl, hs, hnew, hb⟩
  have hlb := hhn.lt
  have hszb := hb.size
  replace hhn := hhn.keep (hb.block _ hhn.lt)
  replace rk := rk.below hb
  replace rg := rg.below hb
  replace hbel := hbel.trans (hb.mono hbel.size)
  clear hb
  have HSZ := Lib.hid hs.size
  have HON := Lib.hid hs.one
  go_wp2_with (first
    | (refine wpList_store_row rfl 30 (.tmp 8) (.tmp 101) rfl w25.heap.size c6 rfl rfl 30 _ (heap_alloc_new _ _) (by rw [HSZ.out]; exact size30) (by rw [HSZ.out]; rfl) HON.out ?_; rw [setRow_alloc_new])
    | (refine wpList_load_row rfl 30 (.tmp 8) rfl w25.heap.size rfl 30 c6 (0, 0) _ (heap_alloc_new _ _) Try.underlying30 rfl (by rw [HSZ.out]; exact size30) ?_))
  have hal : Below w25.heap.size w25 (w25.alloc (.cells c6 30)) := (Below.refl _ _).alloc (Nat.le_refl _) _
  have hblk : (w25.alloc (.cells c6 30)).heap[w25.heap.size]? = some (.cells c6 30 (0, 0)) := heap_alloc_new _ _
  have hlp := lt_of_block hblk
  refine (down_any _ _ 0 _ Fs Ks true 120 18446744073709551615 _ (hhn.keep (hal.block _ hhn.lt)) (hs.below hal) (by omega) (by omega)).mono ?_
  rintro e w26 ⟨vk2, vg2, rfl, hk, hg, hh2, hb⟩
  rw [kn12] at hh2
  rw [kn12]
  replace hblk := (hb.block _ hlp (by omega)).trans hblk
  have hbf : But bc w25 (w26.setCell ⟨w25.heap.size, 8, none⟩ (.int .i64 (-5))) := ((But.of_below hal).trans hb).setNew (Nat.le_refl _) 8 _
  replace hbel := (hbel.trans (hal.mono hbel.size)).trans (hb.below (Nat.le_of_lt hne) (by have := hbel.size; simp; omega))
  have hc8 := (cell_of_row _ _ 8 _ _ _ hblk).trans hs.time_
  have hf8 := frozen_of_row _ _ 8 _ _ hblk
  have hblk8 := set_heap (i := 8) (v := .int .i64 (-5)) hblk
  have hs8 := (hs.but hnew hlb hbf).setTime (-5) (by omega) (by omega)
  replace rk := rk.but nk hbf
  replace rg := rg.but ng hbf
  have hh8 : IsH (w26.setCell ⟨w25.heap.size, 8, none⟩ (.int .i64 (-5))) bc (keepsP Fs Ks true) 18446744073709551615 := hh2.keep (heap_setCell_other _ _ _ _ (by show bc ≠ w25.heap.size; omega))
  have hbel8 : Below w.heap.size w (w26.setCell ⟨w25.heap.size, 8, none⟩ (.int .i64 (-5))) := hbel.setCell (by show w.heap.size ≤ w25.heap.size; omega) _
  obtain ⟨lp, hlpe⟩ : ∃ lp, w25.heap.size = lp := ⟨_, rfl⟩
  rw [hlpe] at hc8 hf8 hblk8 hs8 rk rg hh8 hbel8
  rw [hlpe]
  clear hk hg hb hs hal hblk hbf hbel hh2 hnew hlp hhn hszb hlb hlpe
  go_wp2_with (refine wpList_load_row rfl 30 (.tmp 8) rfl lp rfl 30 (c6.setIfInBounds 8 (.int .i64 (-5))) (0, 0) _ hblk8 Try.underlying30 rfl (by simp only [Array.size_setIfInBounds]; rw [HSZ.out]; exact size30) ?_)
  refine (down_any _ _ _ _ Fs Ks true (-5) 7 _ hh8 hs8 (by omega) (by omega)).mono ?_
  rintro e w27 ⟨vk3, vg3, rfl, hk, hg, hh9, hb⟩
  rw [kn13]
  replace rk := rk.but nk hb
  replace rg := rg.but ng hb
  have hbel := hbel8.trans (hb.below (Nat.le_of_lt hne) hbel8.size)
  clear hk hg hb hh9 hbel8 hh8 hs8 hblk8 hc8 hf8 HSZ HON
  go_wp2_with fail
  have hN : Nope (w27.alloc (.cells (hC false nil0 0) 62)) (.pointer none) := .inl rfl
  have hE : Nope (w27.alloc (.cells (hC false nil0 0) 62)) (.pointer (some ⟨w27.heap.size, 0, none⟩)) := .inr ⟨_, rfl, by simp [hC]⟩
  have hal : Below w27.heap.size w27 (w27.alloc (.cells (hC false nil0 0) 62)) := (Below.refl _ _).alloc (Nat.le_refl _) _
  replace rk := rk.below hal
  replace rg := rg.below hal
  replace hbel := hbel.trans (hal.mono hbel.size)
  clear hal
  refine (session_any _).mono ?_
  rintro e w28 ⟨c7, rfl, hs, hb⟩
  replace rk := rk.below hb
  replace rg := rg.below hb
  replace hE := hE.below hb
  replace hbel := hbel.trans (hb.mono hbel.size)
  clear hb hs
  go_wp2_with fail
  refine (down_nope _ _ 10 _ (.inl rfl)).mono ?_
  rintro e w29 ⟨rfl, hb⟩
  replace rk := rk.below hb
  replace rg := rg.below hb
  replace hE := hE.below hb
  replace hbel := hbel.trans (hb.mono hbel.size)
  clear hb
  go_wp2_with fail
  refine (session_any _).mono ?_
  rintro e w30 ⟨c8, rfl, hs, hb⟩
  replace rk := rk.below hb
  replace rg := rg.below hb
  replace hE := hE.below hb
  replace hbel := hbel.trans (hb.mono hbel.size)
  clear hb hs
  go_wp2_with fail
  refine (down_nope _ _ 10 _ hE).mono ?_
  rintro e w31 ⟨rfl, hb⟩
  replace rk := rk.below hb
  replace rg := rg.below hb
  replace hE := hE.below hb
  replace hbel := hbel.trans (hb.mono hbel.size)
  clear hb
  go_wp2_with fail
  refine (works_any _).mono ?_
  rintro e w32 ⟨rfl, hb⟩
  replace rk := rk.below hb
  replace rg := rg.below hb
  replace hE := hE.below hb
  replace hbel := hbel.trans (hb.mono hbel.size)
  clear hb
  go_wp2_with fail
  refine (is_none vk _ rk).mono ?_
  rintro e w33 ⟨rfl, hb⟩
  replace rk := rk.below hb
  replace rg := rg.below hb
  replace hE := hE.below hb
  replace hbel := hbel.trans (hb.mono hbel.size)
  clear hb
  clear rk
  go_wp2_with fail
  refine (is_yes vg [1, 2, 3] _ rg (by decide)).mono ?_
  rintro e w34 ⟨rfl, hb⟩
  replace hE := hE.below hb
  replace hbel := hbel.trans (hb.mono hbel.size)
  clear hb
  clear rg
  go_wp2_with fail
  refine (session_any _).mono ?_
  rintro e w35 ⟨c9, rfl, hs, hb⟩
  replace hE := hE.below hb
  replace hbel := hbel.trans (hb.mono hbel.size)
  clear hb hs
  go_wp2_with fail
  refine (up_nope _ _ _ _ (.inl rfl)).mono ?_
  rintro e w36 ⟨rfl, hb⟩
  replace hE := hE.below hb
  replace hbel := hbel.trans (hb.mono hbel.size)
  clear hb
  go_wp2_with fail
  refine (end_nope _ 1 _ (.inl rfl)).mono ?_
  rintro e w' ⟨rfl, rfl⟩
  go_wp2_with fail
  refine (fire_nope _ 1 _ hE).mono ?_
  rintro e w' ⟨rfl, rfl⟩
  go_wp2_with fail
  refine (stale_nope _ _ (.inl rfl)).mono ?_
  rintro e w37 ⟨rfl, hb⟩
  replace hE := hE.below hb
  replace hbel := hbel.trans (hb.mono hbel.size)
  clear hb
  go_wp2_with fail
  refine (copy_nope _ _ (.inl rfl)).mono ?_
  rintro e w' ⟨rfl, rfl⟩
  go_wp2_with fail
  refine (copy_nope _ _ hE).mono ?_
  rintro e w' ⟨rfl, rfl⟩
  go_wp2_with fail
  go_ret
  exact ⟨rfl, hbel⟩
end Go.Proofs.Ytbkgipafikeccaa
