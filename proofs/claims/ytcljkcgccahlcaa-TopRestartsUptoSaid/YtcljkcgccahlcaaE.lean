/- gr: Down. -/
import Derived.Test.YtcljkcgccahlcaaEA
import Derived.Deep.MidRow
import Derived.Laws.EntriesVeiled
namespace Go.Proofs.Ytcljkcgccahlcaa
open Go.RowKit
set_option linter.unusedVariables false

/-- A store of all families into a helper. -/
theorem setCells_h {w : World} {b : Nat} {st : Nat → Bool} {e : Int} (h : w.heap[b]? = some (.cells (hC true st e) 80 (0, 0))) (f : Nat → Bool) :
    (w.setCells b 1 (fC f).toList).heap[b]? = some (.cells (hC true f e) 80 (0, 0)) := by
  show (World.setCells w b 1 [_, _, _, _, _, _]).heap[b]? = _
  simp only [World.setCells]
  rw [set_heap (set_heap (set_heap (set_heap (set_heap (set_heap h)))))]
  rfl
theorem setCells_but (b : Nat) : ∀ (vs : List Value) (o : Nat) (w : World), But b w (w.setCells b o vs)
  | [], o, w => But.refl _ _
  | v :: vs, o, w => ((But.refl b w).setCell o v).trans (setCells_but b vs (o + 1) _)
theorem there_h {w : World} {b : Nat} {st : Nat → Bool} {e : Int} (h : w.heap[b]? = some (.cells (hC true st e) 80 (0, 0))) : w.there b 1 6 := by
  intro j hj
  refine ⟨?_, frozen_of_row _ _ _ _ _ h⟩
  rw [cell_of_row _ _ _ _ _ _ h, hC_at _ _ _ j hj]; rfl

theorem famsOf_nums_lt (p : Nat → Bool) : (nums (famsOf p)).length ≤ 6 := by rw [nums_len]; exact famsOf_len p

theorem own_lt {w : World} {base e size n : Nat} {v : Value} {xs : List Value} (h : w.ownsRow base e size v n xs) : ∀ g, v.ownBlock = some g → g < w.heap.size := by
  intro g hg
  rcases h.2 with ⟨rfl, _⟩ | ⟨g', cap, cur, rfl, _, hb, _⟩
  · cases hg
  · simp [Value.ownBlock] at hg; subst hg; exact lt_of_block hb

/-- What is added round by round. -/
def addL (l : List Nat) : Nat → Bool := fun i => l.contains i
theorem addL_snoc (l : List Nat) (a : Nat) : upd (addL l) a true = addL (l ++ [a]) := by
  funext i
  unfold upd addL
  by_cases h : i = a
  · subst h; simp
  · simp [h]
theorem addL_nil : addL [] = nil0 := by funext i; simp [addL, nil0]
theorem addL_fams (p : Nat → Bool) (h0 : p 0 = false) : ∀ i, i < 6 → addL (famsOf p) i = p i := by
  intro i hi
  unfold addL
  rw [Bool.eq_iff_iff, List.contains_iff_mem, mem_famsOf]
  constructor
  · exact fun h => h.2
  · intro h
    refine ⟨?_, h⟩
    rcases Nat.eq_zero_or_pos i with rfl | hp
    · rw [h0] at h; cases h
    · omega
theorem ofP_zero (F : List Int) : ofP F 0 = false := by simp [ofP]
theorem keepsP_zero (F : List Int) (K : List (Int × Bool)) (gr : Bool) : keepsP F K gr 0 = false := by simp [keepsP, ofP_zero]

/-- When it ends. -/
def atV (l : List Nat) (time now : Int) : Int := if l.length = 0 then 0 else min (now + max time 0) 18446744073709551615

theorem wrap_u64 (n : Int) : IntKind.u64.wrap n = n % 18446744073709551616 := by simp [IntKind.wrap, IntKind.signed, IntKind.bits]
theorem at_over {l : List Nat} {time now : Int} (hl : l.length ≠ 0) (h : IntKind.u64.wrap (now + max time 0) < now) (n1 : 0 ≤ now) (n2 : now < 18446744073709551616) (ht : max time 0 < 18446744073709551616) :
    True ∧ atV l time now = 18446744073709551615 := by
  rw [wrap_u64] at h
  refine ⟨trivial, ?_⟩
  unfold atV
  rw [if_neg hl]
  omega
theorem at_fits {l : List Nat} {time now : Int} (hl : l.length ≠ 0) (h : now ≤ IntKind.u64.wrap (now + max time 0)) (n1 : 0 ≤ now) (n2 : now < 18446744073709551616) (ht : max time 0 < 18446744073709551616) :
    0 ≤ IntKind.u64.wrap (now + max time 0) ∧ IntKind.u64.wrap (now + max time 0) < 18446744073709551616 ∧ atV l time now = IntKind.u64.wrap (now + max time 0) := by
  rw [wrap_u64] at h ⊢
  refine ⟨by omega, by omega, ?_⟩
  unfold atV
  rw [if_neg hl]
  omega

/-- What Down leaves. -/
def DownPost (w : World) (b : Nat) (st : Nat → Bool) (F : List Int) (K : List (Int × Bool)) (gr : Bool) (time now : Int) (r : Ending) (w' : World) : Prop :=
  ∃ vk vg, r = .returned (.tuple #[vk, vg, .int .u64 (atV (famsOf (keepsP F K gr)) time now)]) ∧ w'.ownsRow w.heap.size 3 1 vk (famsOf (keepsP F K gr)).length (ints (famsOf (keepsP F K gr))) ∧
    w'.ownsRow w.heap.size 3 1 vg (famsOf (goneP st F K gr)).length (ints (famsOf (goneP st F K gr))) ∧ IsH w' b (keepsP F K gr) (atV (famsOf (keepsP F K gr)) time now) ∧ But b w w'

theorem hC_set7 (st : Nat → Bool) (e e' : Int) : (hC true st e).setIfInBounds 7 (.int .u64 e') = hC true st e' := rfl

/-- What is known at Down's end. -/
theorem down_end {w w5 wr : World} {b : Nat} {st : Nat → Bool} {F : List Int} {K : List (Int × Bool)} {gr : Bool} {time now e0 at_ : Int} {vk vg : Value} {L : List Nat} (hL : famsOf (keepsP F K gr) = L)
    (ok5 : w5.ownsRow w.heap.size 3 1 vk L.length (ints L)) (og5 : w5.ownsRow w.heap.size 3 1 vg (famsOf (goneP st F K gr)).length (ints (famsOf (goneP st F K gr)))) (hb5 : Below w.heap.size w w5) (hlt : b < w.heap.size)
    (hh : IsH wr b (addL L) e0) (hbut : But b w5 wr) (a0 : 0 ≤ at_) (a1 : at_ < 18446744073709551616) (hat : atV L time now = at_) : DownPost w b st F K gr time now (.returned (.tuple #[vk, vg, .int .u64 at_])) (wr.setCell ⟨b, 7, none⟩ (.int .u64 at_)) := by
  have hbut2 := hbut.setCell 7 (.int .u64 at_)
  have hne : ∀ {v : Value} {n : Nat} {xs : List Value}, w5.ownsRow w.heap.size 3 1 v n xs → (wr.setCell ⟨b, 7, none⟩ (.int .u64 at_)).ownsRow w.heap.size 3 1 v n xs := fun ho =>
    own_keep ho fun g hg => hbut2.block g (own_lt ho g hg) (by have := own_ge ho g hg; omega)
  refine ⟨vk, vg, by rw [hL, hat], by rw [hL]; exact hne ok5, hne og5, ?_, (But.of_below hb5).trans hbut2⟩
  rw [hL, hat]
  have hk : ∀ i, i < 6 → addL L i = keepsP F K gr i := by rw [← hL]; exact addL_fams _ (keepsP_zero _ _ _)
  refine ⟨?_, a0, a1⟩
  rw [set_heap hh.blk, hC_set7, hC_congr hk]

set_option maxHeartbeats 1000000 in
set_option maxRecDepth 100000 in
theorem down_any (b : Nat) (st : Nat → Bool) (e0 : Int) (c : Array Value) (F : List Int) (K : List (Int × Bool)) (gr : Bool) (time now : Int) (w : World) (h : IsH w b st e0) (hs : Ses w c F K gr time) (n1 : 0 ≤ now) (n2 : now < 18446744073709551616) :
    Calls Try.prog 8 #[.pointer (some ⟨b, 0, none⟩), .agg c, .int .u64 now] w (DownPost w b st F K gr time now) := by
  have h0 := h.there
  have hlt := h.lt
  have HH := Lib.hid h
  have HS := Lib.hid hs
  clear h hs
  have z := fun w => zeroF w
  go_enter Try.func8, Try.ntmps8
  go_upto_region 3 with (go_at_call 28; refine (none_no b _ (by rw [World.cell?_alloc_lt _ _ _ (by simp; omega), World.cell?_alloc_lt _ _ _ (by simpa using hlt)]; exact h0)).mono ?_; rintro e w' ⟨rfl, rfl⟩)
  refine pair_region ⟨16, 17, 18, 19, 9, 10⟩ 4 false c F K gr time (w.heap.size + 1) (HS.out.below (((Below.refl _ _).alloc (Nat.le_refl _) _).alloc (by simp) _)) (heap_alloc2_new _ _ _) (by decide) (by decide) (by simp [Slots.list]) rfl rfl rfl
    ⟨⟨_, rfl, rfl, rfl, rfl⟩, ⟨_, rfl, rfl, rfl, rfl⟩, ⟨_, rfl, rfl, rfl, rfl⟩, ⟨_, rfl, rfl, rfl, rfl⟩, ⟨_, rfl, rfl, rfl, rfl⟩, ⟨_, rfl, rfl, rfl, rfl⟩, ⟨_, rfl, rfl, rfl, rfl⟩, ⟨_, rfl, rfl, rfl, rfl⟩,
      rfl, rfl, rfl, rfl, rfl, rfl, rfl, rfl⟩ ?_
  intro a wx x y hx hy hsz hdf hrest hBx hBy hxb hyb hbel
  rw [frame_is hsz hdf [16, 17, 18, 19, 9, 10] hrest]
  replace hx : a.tmps.getD 9 undef = .pointer (some ⟨x, 0, none⟩) := hx
  replace hy : a.tmps.getD 10 undef = .pointer (some ⟨y, 0, none⟩) := hy
  rw [List.foldl_cons, List.foldl_cons, List.foldl_cons, List.foldl_cons, List.foldl_cons, List.foldl_cons, List.foldl_nil, hx, hy]
  generalize a.tmps.getD 16 undef = u16
  generalize a.tmps.getD 17 undef = u17
  generalize a.tmps.getD 18 undef = u18
  generalize a.tmps.getD 19 undef = u19
  clear hx hy hsz hdf hrest
  go_wp2_with fail
  have hcell := bcell hbel
  have hbw : Below w.heap.size w wx := (((Below.refl _ _).alloc (Nat.le_refl _) _).alloc (by simp) _).trans (hbel.mono (by simp; omega))
  have hsx := hbel.size
  simp at hBx hBy hsx
  have m1 : wx.cell? ⟨w.heap.size, 0, none⟩ = some (.pointer (some ⟨b, 0, none⟩)) := by rw [hcell.1 _ _ (by simp; omega)]; simp [World.cell?_alloc_past]
  have m2 : wx.cell? ⟨w.heap.size + 1, 6, none⟩ = some (.bool gr) := by rw [hcell.1 _ _ (by simp)]; simpa [World.cell?_alloc_at] using HS.out.hasGR
  have m3 : wx.cell? ⟨w.heap.size + 1, 8, none⟩ = some (.int .i64 time) := by rw [hcell.1 _ _ (by simp)]; simpa [World.cell?_alloc_at] using HS.out.time_
  have m4 : ∀ i, i < 6 → wx.cell? ⟨x, i, none⟩ = some (.bool (ofP F i)) := fun i hi => by rw [cell_of_row _ _ _ _ _ _ hxb]; exact fC_at _ i hi
  have m5 : ∀ i, i < 6 → wx.cell? ⟨y, i, none⟩ = some (.bool (standsP K false i)) := fun i hi => by rw [cell_of_row _ _ _ _ _ _ hyb]; exact fC_at _ i hi
  have m6 : IsH wx b st e0 := HH.out.keep (hbw.block _ hlt)
  have hlx := lt_of_block hxb
  clear hcell hbel hxb hyb HH
  have hW3 : Below wx.heap.size wx (wx.alloc (.cells #[.func (.func 31) #[] #[.pointer (some ⟨w.heap.size + 1, 0, none⟩), .pointer (some ⟨x, 0, none⟩), .pointer (some ⟨y, 0, none⟩)]] 62)) := (Below.refl _ _).alloc (Nat.le_refl _) _
  have m7 : (wx.alloc (.cells #[.func (.func 31) #[] #[.pointer (some ⟨w.heap.size + 1, 0, none⟩), .pointer (some ⟨x, 0, none⟩), .pointer (some ⟨y, 0, none⟩)]] 62)).cell? ⟨wx.heap.size, 0, none⟩ = some (.func (.func 31) #[] #[.pointer (some ⟨w.heap.size + 1, 0, none⟩), .pointer (some ⟨x, 0, none⟩), .pointer (some ⟨y, 0, none⟩)]) := by simp
  obtain ⟨fb, hfb⟩ : ∃ fb, wx.heap.size = fb := ⟨_, rfl⟩
  obtain ⟨W3, hW⟩ : ∃ W3, wx.alloc (.cells #[(.func (.func 31) #[] #[.pointer (some ⟨w.heap.size + 1, 0, none⟩), .pointer (some ⟨x, 0, none⟩), .pointer (some ⟨y, 0, none⟩)])] 62) = W3 := ⟨_, rfl⟩
  rw [hW] at hW3 m7
  rw [hW]
  rw [hfb] at m7
  replace m1 := cell_later hW3 m1
  replace m2 := cell_later hW3 m2
  replace m3 := cell_later hW3 m3
  replace m4 : ∀ i, i < 6 → W3.cell? ⟨x, i, none⟩ = some (.bool (ofP F i)) := fun i hi => cell_later hW3 (m4 i hi)
  replace m5 : ∀ i, i < 6 → W3.cell? ⟨y, i, none⟩ = some (.bool (standsP K false i)) := fun i hi => cell_later hW3 (m5 i hi)
  replace m6 : IsH W3 b st e0 := m6.keep (hW3.block _ (by omega))
  have hbw3 : Below w.heap.size w W3 := hbw.trans (hW3.mono (by omega))
  rw [hfb]
  clear hW hW3 hbw hfb hsx hlx
  -- the families that are kept
  have T1 : Tells W3 31 (fun i => #[i, .pointer (some ⟨w.heap.size + 1, 0, none⟩), .pointer (some ⟨x, 0, none⟩), .pointer (some ⟨y, 0, none⟩)]) (keepsP F K gr) := by
    intro i h1 h5 w' hb
    exact keeps_any x y (w.heap.size + 1) gr (ofP F) (standsP K false) i h1 h5 w' (cell_later hb m2) (cell_later hb (m4 i (by omega))) (cell_later hb (m5 i (by omega)))
  refine (list_Keeps _ _ _ (keepsP F K gr) _ T1).mono ?_
  rintro r w4 ⟨vk, rfl, hk⟩
  clear T1
  replace m1 := cell_later hk.2 m1
  replace m2 := cell_later hk.2 m2
  replace m3 := cell_later hk.2 m3
  replace m4 : ∀ i, i < 6 → w4.cell? ⟨x, i, none⟩ = some (.bool (ofP F i)) := fun i hi => cell_later hk.2 (m4 i hi)
  replace m5 : ∀ i, i < 6 → w4.cell? ⟨y, i, none⟩ = some (.bool (standsP K false i)) := fun i hi => cell_later hk.2 (m5 i hi)
  have hs3 := hbw3.size
  have hb4 : Below w.heap.size w w4 := hbw3.trans (hk.2.mono hs3)
  replace m6 : IsH w4 b st e0 := m6.keep (hk.2.block _ (by omega))
  replace m7 := cell_later hk.2 m7
  have ok4 : w4.ownsRow w.heap.size 3 1 vk (famsOf (keepsP F K gr)).length (ints (famsOf (keepsP F K gr))) := own_mono hk.1 hs3
  have hbw4 := hb4
  clear hk hbw3
  go_wp2_with fail
  -- the families that are gone
  have T2 : Tells w4 33 (fun i => #[i, .pointer (some ⟨fb, 0, none⟩), .pointer (some ⟨x, 0, none⟩), .pointer (some ⟨w.heap.size, 0, none⟩)]) (goneP st F K gr) := by
    intro i h1 h5 w' hb
    exact gone_any fb x y w.heap.size (w.heap.size + 1) b gr (ofP F) (standsP K false) st i h1 h5 w' (cell_later hb m7) (cell_later hb m1) (cell_later hb m2) (cell_later hb (m4 i (by omega))) (cell_later hb (m5 i (by omega))) (cell_later hb (m6.at_ (by omega)))
  refine (list_Gone _ _ _ (goneP st F K gr) _ T2).mono ?_
  rintro r w5 ⟨vg, rfl, hg⟩
  clear T2 m2 m4 m5 m7
  replace m1 := cell_later hg.2 m1
  replace m3 := cell_later hg.2 m3
  have hs4 := hb4.size
  have hb5 : Below w.heap.size w w5 := hb4.trans (hg.2.mono hs4)
  replace m6 : IsH w5 b st e0 := m6.keep (hg.2.block _ (by omega))
  have lt4 : ∀ g, vk.ownBlock = some g → g < w4.heap.size := own_lt ok4
  have ok5 : w5.ownsRow w.heap.size 3 1 vk (famsOf (keepsP F K gr)).length (ints (famsOf (keepsP F K gr))) := own_keep ok4 fun g hgb => hg.2.block g (lt4 g hgb)
  have og5 : w5.ownsRow w.heap.size 3 1 vg (famsOf (goneP st F K gr)).length (ints (famsOf (goneP st F K gr))) := own_mono hg.1 hs4
  clear hg ok4 hb4 hbw4 lt4
  have hrd : Rd w5 vk (nums (famsOf (keepsP F K gr))) := rd_of_own (base := w.heap.size) (by rw [nums_ints, nums_len]; exact ok5) (by have := famsOf_nums_lt (keepsP F K gr); unfold maxLen; omega)
  have hL6 := famsOf_len (keepsP F K gr)
  have hlm : ∀ i ∈ famsOf (keepsP F K gr), i < 6 := famsOf_lt _
  obtain ⟨L, hL⟩ : ∃ L, famsOf (keepsP F K gr) = L := ⟨_, rfl⟩
  rw [hL] at hrd hL6 hlm ok5
  have HL := Lib.hid hL
  have HLM := Lib.hid hlm
  obtain ⟨ao, cap, g, off, rfl, hcap, hao, hcell⟩ := hrd.open_
  rw [nums_len] at hcap hao hcell ok5 ⊢
  have HA := Lib.hid hao
  have HC := Lib.hid hcell
  have HG : Hid (0 < L.length → g ≠ b) := by
    intro h0
    obtain ⟨rfl, _⟩ := hao h0
    have := own_ge ok5 g rfl
    omega
  have hs5 := hb5.size
  have hlt5 : w.heap.size < w5.heap.size := by have := World.block_lt_of_cell? _ _ m1; simpa using this
  clear hL hlm hrd hao hcell hcap
  go_wp2_with (refine wpList_store_mid rfl 78 (.tmp 28) (.tmp 26) rfl b 1 (fC nil0) rfl rfl (there_h m6.blk) sizeF (by simp [fC, Value.oneCell']) ?_; have h6 : IsH (w5.setCells b 1 (fC nil0).toList) b nil0 e0 := ⟨setCells_h m6.blk nil0, m6.e0, m6.e1⟩; have hb6 : But b w5 (w5.setCells b 1 (fC nil0).toList) := setCells_but b _ _ _; generalize w5.setCells b 1 (fC nil0).toList = w6 at *)
  clear z
  go_loopw [31] (fun i wr => ∃ k : Nat, i = .int .i64 k ∧ k ≤ L.length ∧ IsH wr b (addL (L.take k)) e0 ∧ But b w5 wr) (fun i _ => L.length - (intOf i).toNat)
  case atStart => exact ⟨0, rfl, Nat.zero_le _, by rw [List.take_zero, addL_nil]; exact h6, hb6⟩
  case round =>
    obtain ⟨k, rfl, hk, hh, hbut⟩ := hrel
    clear h6 hb6
    have mm1 : wr.cell? ⟨w.heap.size, 0, none⟩ = some (.pointer (some ⟨b, 0, none⟩)) := (hbut.cell hlt5 (by omega)).trans m1
    by_cases hkl : k < L.length
    · obtain ⟨rfl, hg⟩ := HA.out (by omega)
      have hc : wr.cell? ⟨g, off + k, none⟩ = some (.int .i64 ((L[k] : Nat) : Int)) := by
        rw [hbut.cell hg (HG.out (by omega)), HC.out k hkl]
        simp [nums, List.getD_eq_getElem?_getD, List.getElem?_eq_getElem hkl]
      have h6 := HLM.out L[k] (List.getElem_mem hkl)
      have hst := hh.at_ h6
      have hfz := hh.free (1 + L[k])
      have hnew : IsH (wr.setCell ⟨b, 1 + L[k], none⟩ (.bool true)) b (addL (L.take (k + 1))) e0 := by
        rw [List.take_succ_eq_append_getElem hkl, ← addL_snoc]
        exact hh.set h6 true
      have hbut2 := hbut.setCell (1 + L[k]) (.bool true)
      clear hh hbut m1 m3 m6 ok5 og5 hb5
      obtain ⟨a', ha⟩ : ∃ a', L[k] = a' := ⟨_, rfl⟩
      rw [ha] at hc h6 hst hfz hnew hbut2
      clear ha
      go_wp2
      go_roundw
      case rel => exact ⟨k + 1, by go_num, by omega, hnew, hbut2⟩
      case measure => simp [intOf]; omega
    · obtain rfl : k = L.length := by omega
      rw [List.take_length] at hh
      have mm3 : wr.cell? ⟨w.heap.size + 1, 8, none⟩ = some (.int .i64 time) := (hbut.cell (by have := World.block_lt_of_cell? _ _ m3; simpa using this) (by omega)).trans m3
      have h7 := hh.end_
      have hfz := hh.free 7
      have t1 := HS.out.t1
      have t2 := HS.out.t2
      have HB5 := Lib.hid hb5
      have HO5 := Lib.hid ok5
      have HG5 := Lib.hid og5
      have HHH := Lib.hid hh
      have HBUT := Lib.hid hbut
      clear hkl hk m1 m3 m6 hh hbut hb5 ok5 og5
      by_cases hl0 : L.length = 0
      · have hat : atV L time now = 0 := by simp [atV, hl0]
        have hend := down_end HL.out HO5.out HG5.out HB5.out hlt HHH.out HBUT.out (by omega) (by omega) hat
        have HE := Lib.hid hend
        clear hat hend
        go_wp2
        go_ret3
        exact HE.out
      · have hpos : (0 : Int) < (L.length : Int) := by omega
        clear hl0
        have HP : Hid (L.length ≠ 0) := by show _ ≠ _; omega
        by_cases ht : 0 ≤ time
        · have HT : Hid (max time 0 = time) := by show _ = _; omega
          go_wp2
          · have hw : IntKind.u64.wrap (now + time) < now := by assumption
            go_ret3
            obtain ⟨v1, v2⟩ := at_over HP.out (by rw [HT.out]; exact hw) n1 n2 (by rw [HT.out]; omega)
            exact down_end HL.out HO5.out HG5.out HB5.out hlt HHH.out HBUT.out (by omega) (by omega) v2
          · have hw : now ≤ IntKind.u64.wrap (now + time) := by assumption
            go_ret3
            obtain ⟨v1, v2, v3⟩ := at_fits HP.out (by rw [HT.out]; exact hw) n1 n2 (by rw [HT.out]; omega)
            rw [HT.out] at v1 v2 v3
            exact down_end HL.out HO5.out HG5.out HB5.out hlt HHH.out HBUT.out v1 v2 v3
        · have HT : Hid (max time 0 = 0) := by show _ = _; omega
          have hat : atV L time now = now := by unfold atV; rw [if_neg HP.out, HT.out]; omega
          have hend := down_end HL.out HO5.out HG5.out HB5.out hlt HHH.out HBUT.out n1 n2 hat
          have HE := Lib.hid hend
          clear hat hend
          go_wp2
          go_ret3
          exact HE.out
end Go.Proofs.Ytcljkcgccahlcaa
