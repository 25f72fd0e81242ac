/- gr: Up. -/
import Derived.Test.YtcljkcgccahlcaaE
import Derived.Deep.RegionHeld3
namespace Go.Proofs.Ytcljkcgccahlcaa
open Go.RowKit
set_option linter.unusedVariables false

theorem Tells.drew {w : World} {F : FuncId} {args : Value → Array Value} {p : Nat → Bool} (h : Tells w F args p) : Tells w.drew F args p :=
  fun i h1 h5 w' hb => h i h1 h5 w' ⟨hb.os, hb.tape, hb.output, hb.size, hb.block⟩

def goneU (st : Nat → Bool) (F : List Int) (K : List (Int × Bool)) (o : Bool) : Nat → Bool := fun i => st i && !(o && ofP F i && standsP K true i)

set_option maxHeartbeats 4000000 in
theorem up1_any (x y B0 BO b : Nat) (o : Bool) (f g st : Nat → Bool) (i : Nat) (h1 : 1 ≤ i) (h5 : i ≤ 5) (w : World)
    (hb0 : w.cell? ⟨B0, 0, none⟩ = some (.pointer (some ⟨b, 0, none⟩))) (hg : w.cell? ⟨BO, 7, none⟩ = some (.bool o)) (hx : w.cell? ⟨x, i, none⟩ = some (.bool (f i))) (hy : w.cell? ⟨y, i, none⟩ = some (.bool (g i))) (hs : w.cell? ⟨b, 1 + i, none⟩ = some (.bool (st i))) :
    Calls Try.prog 39 #[.int .i64 (i : Int), .pointer (some ⟨B0, 0, none⟩), .pointer (some ⟨BO, 0, none⟩), .pointer (some ⟨x, 0, none⟩), .pointer (some ⟨y, 0, none⟩)] w fun e w' => e = .returned (.bool (st i && !(o && f i && g i))) ∧ w = w' := by
  generalize f i = fi at *
  generalize g i = gi at *
  generalize st i = si at *
  cases o <;> cases fi <;> cases gi <;> cases si
  all_goals
    go_enter Try.func39, Try.ntmps39
    go_wp2
    go_ret
    exact ⟨rfl, rfl⟩

/-- What Up leaves. -/
def UpPost (w : World) (b : Nat) (st : Nat → Bool) (e0 : Int) (F : List Int) (K : List (Int × Bool)) (o : Bool) (r : Ending) (w' : World) : Prop :=
  ∃ v, r = .returned v ∧ w'.ownsRow w.heap.size 3 1 v (famsOf (goneU st F K o)).length (ints (famsOf (goneU st F K o))) ∧ IsH w' b (dropL st (famsOf (goneU st F K o))) e0 ∧ But b w w'

set_option maxHeartbeats 1000000 in
set_option maxRecDepth 100000 in
theorem up_any (b : Nat) (st : Nat → Bool) (e0 : Int) (oc c : Array Value) (o : Bool) (F : List Int) (K : List (Int × Bool)) (gr : Bool) (time : Int) (w : World) (h : IsH w b st e0) (hs : Ses w c F K gr time) (hoc : oc[7]? = some (.bool o)) :
    Calls Try.prog 18 #[.pointer (some ⟨b, 0, none⟩), .agg oc, .agg c] w (UpPost w b st e0 F K o) := by
  have h0 := h.there
  have hlt := h.lt
  have HH := Lib.hid h
  have HS := Lib.hid hs
  have HO := Lib.hid hoc
  clear h hs hoc
  have z := fun w => zeroF w
  go_enter Try.func18, Try.ntmps18
  go_upto_region 3 with (go_at_call 28; refine (none_no b _ (by rw [World.cell?_alloc_lt _ _ _ (by simp; omega), World.cell?_alloc_lt _ _ _ (by simp; omega), World.cell?_alloc_lt _ _ _ (by simpa using hlt)]; exact h0)).mono ?_; rintro e w' ⟨rfl, rfl⟩)
  have hW2 : Below w.heap.size w (((w.alloc (.cells #[.pointer (some ⟨b, 0, none⟩)] 31)).alloc (.cells oc 60)).alloc (.cells c 26)) := (((Below.refl _ _).alloc (Nat.le_refl _) _).alloc (by simp) _).alloc (by simp; omega) _
  have k1 : (((w.alloc (.cells #[.pointer (some ⟨b, 0, none⟩)] 31)).alloc (.cells oc 60)).alloc (.cells c 26)).heap[w.heap.size]? = some (.cells #[.pointer (some ⟨b, 0, none⟩)] 31 (0, 0)) := by
    rw [Below.heap_alloc _ _ _ (by simp; omega), Below.heap_alloc _ _ _ (by simp)]; exact heap_alloc_new _ _
  have k2 : (((w.alloc (.cells #[.pointer (some ⟨b, 0, none⟩)] 31)).alloc (.cells oc 60)).alloc (.cells c 26)).heap[w.heap.size + 1]? = some (.cells oc 60 (0, 0)) := by
    rw [Below.heap_alloc _ _ _ (by simp)]; have := heap_alloc_new (w.alloc (.cells #[.pointer (some ⟨b, 0, none⟩)] 31)) (.cells oc 60); simpa using this
  have k3 : (((w.alloc (.cells #[.pointer (some ⟨b, 0, none⟩)] 31)).alloc (.cells oc 60)).alloc (.cells c 26)).heap[w.heap.size + 2]? = some (.cells c 26 (0, 0)) := by
    have := heap_alloc_new ((w.alloc (.cells #[.pointer (some ⟨b, 0, none⟩)] 31)).alloc (.cells oc 60)) (.cells c 26); simpa using this
  have hsz2 : (((w.alloc (.cells #[.pointer (some ⟨b, 0, none⟩)] 31)).alloc (.cells oc 60)).alloc (.cells c 26)).heap.size = w.heap.size + 3 := by simp
  generalize ((w.alloc (.cells #[.pointer (some ⟨b, 0, none⟩)] 31)).alloc (.cells oc 60)).alloc (.cells c 26) = W2 at *
  refine pair_region ⟨11, 12, 13, 14, 7, 8⟩ 5 true c F K gr time (w.heap.size + 2) (HS.out.below hW2) k3 (by decide) (by decide) (by simp [Slots.list]) rfl rfl rfl
    ⟨⟨_, rfl, rfl, rfl, rfl⟩, ⟨_, rfl, rfl, rfl, rfl⟩, ⟨_, rfl, rfl, rfl, rfl⟩, ⟨_, rfl, rfl, rfl, rfl⟩, ⟨_, rfl, rfl, rfl, rfl⟩, ⟨_, rfl, rfl, rfl, rfl⟩, ⟨_, rfl, rfl, rfl, rfl⟩, ⟨_, rfl, rfl, rfl, rfl⟩,
      rfl, rfl, rfl, rfl, rfl, rfl, rfl, rfl⟩ ?_
  intro a wx x y hx hy hsz hdf hrest hBx hBy hxb hyb hbel
  rw [frame_is hsz hdf [11, 12, 13, 14, 7, 8] hrest]
  replace hx : a.tmps.getD 7 undef = .pointer (some ⟨x, 0, none⟩) := hx
  replace hy : a.tmps.getD 8 undef = .pointer (some ⟨y, 0, none⟩) := hy
  rw [List.foldl_cons, List.foldl_cons, List.foldl_cons, List.foldl_cons, List.foldl_cons, List.foldl_cons, List.foldl_nil, hx, hy]
  generalize a.tmps.getD 11 undef = u16
  generalize a.tmps.getD 12 undef = u17
  generalize a.tmps.getD 13 undef = u18
  generalize a.tmps.getD 14 undef = u19
  clear hx hy hsz hdf hrest
  have m1 : wx.cell? ⟨w.heap.size, 0, none⟩ = some (.pointer (some ⟨b, 0, none⟩)) := cell_later hbel (by rw [cell_of_row _ _ _ _ _ _ k1]; rfl)
  have m2 : wx.cell? ⟨w.heap.size + 1, 7, none⟩ = some (.bool o) := cell_later hbel (by rw [cell_of_row _ _ _ _ _ _ k2]; exact HO.out)
  have m4 : ∀ i, i < 6 → wx.cell? ⟨x, i, none⟩ = some (.bool (ofP F i)) := fun i hi => by rw [cell_of_row _ _ _ _ _ _ hxb]; exact fC_at _ i hi
  have m5 : ∀ i, i < 6 → wx.cell? ⟨y, i, none⟩ = some (.bool (standsP K true i)) := fun i hi => by rw [cell_of_row _ _ _ _ _ _ hyb]; exact fC_at _ i hi
  have hbw : Below w.heap.size w wx := hW2.trans (hbel.mono (by omega))
  have m6 : IsH wx b st e0 := HH.out.keep (hbw.block _ hlt)
  clear hbel hxb hyb HH hW2 k1 k2 k3 hsz2 z
  have T1 : Tells wx 39 (fun i => #[i, .pointer (some ⟨w.heap.size, 0, none⟩), .pointer (some ⟨w.heap.size + 1, 0, none⟩), .pointer (some ⟨x, 0, none⟩), .pointer (some ⟨y, 0, none⟩)]) (goneU st F K o) := by
    intro i h1 h5 w' hb
    exact up1_any x y w.heap.size (w.heap.size + 1) b o (ofP F) (standsP K true) st i h1 h5 w' (cell_later hb m1) (cell_later hb m2) (cell_later hb (m4 i (by omega))) (cell_later hb (m5 i (by omega))) (cell_later hb (m6.at_ (by omega)))
  have HT := Lib.hid T1
  have HM := Lib.hid m6
  have HBW := Lib.hid hbw
  clear T1 m2 m4 m5 m6 hbw
  go_wp2_with fail
  go_region_held3 (fun w' => w'.cell? ⟨w.heap.size, 0, none⟩ = some (.pointer (some ⟨b, 0, none⟩))) (go_keep)
    (first
      | (go_at_call 32; refine (list_Up _ _ _ _ _ _ (by exact HT.out.drew)).mono ?_; rintro r w4 ⟨v, rfl, hk⟩; have m1' : w4.cell? ⟨w.heap.size, 0, none⟩ = some (.pointer (some ⟨b, 0, none⟩)) := cell_later hk.2 (by exact m1))
      | (go_at_call 37; refine (drop_any b st e0 v (famsOf (goneU st F K o)) (famsOf_lt _) _ (HM.out.keep (by exact hk.2.block _ HM.out.lt)) hk.rd (fun hb => by have := own_ge hk.1 b hb; have := HM.out.lt; simp at *; omega)).mono ?_; rintro r w5 ⟨rfl, hh, hb5⟩; have m1'' : w5.cell? ⟨w.heap.size, 0, none⟩ = some (.pointer (some ⟨b, 0, none⟩)) := (hb5.cell (by have := World.block_lt_of_cell? _ _ m1'; simpa using this) (by omega)).trans m1'))
  have hbw5 : But b w w5 := ((But.of_below HBW.out).drew.trans (But.of_below hk.2)).trans hb5
  have hown : w5.ownsRow w.heap.size 3 1 v (famsOf (goneU st F K o)).length (ints (famsOf (goneU st F K o))) :=
    own_keep (own_mono hk.1 (by have := HBW.out.size; simpa using this)) fun g hg => hb5.block g (own_lt hk.1 g hg) (fun e => by have := own_ge hk.1 g hg; have := HM.out.lt; simp at *; omega)
  have hpost : UpPost w b st e0 F K o (.returned v) w5 := ⟨v, rfl, hown, hh, hbw5⟩
  have HPO := Lib.hid hpost
  clear hpost hown hbw5 hh hb5 hk m1 m1' m1''
  go_wp2
  go_ret
  exact HPO.out
end Go.Proofs.Ytcljkcgccahlcaa
