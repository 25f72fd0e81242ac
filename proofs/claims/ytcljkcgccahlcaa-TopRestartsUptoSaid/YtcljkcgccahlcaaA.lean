/- gr: what a helper is in memory; small functions. -/
import Derived.Test.YtcljkcgccahlcaaRows
import Derived.WalkKit
import Derived.WalkSpells
import Derived.WalkLawsBesides
import Derived.Lib.Hide
import Derived.Deep.AppendLies
namespace Go.Proofs.Ytcljkcgccahlcaa
open Go.RowKit
set_option linter.unusedVariables false

/-- The cells of a helper, and of families. -/
def hC (b : Bool) (st : Nat → Bool) (e : Int) : Array Value := #[.bool b, .bool (st 0), .bool (st 1), .bool (st 2), .bool (st 3), .bool (st 4), .bool (st 5), .int .u64 e]
def fC (st : Nat → Bool) : Array Value := #[.bool (st 0), .bool (st 1), .bool (st 2), .bool (st 3), .bool (st 4), .bool (st 5)]
def upd (st : Nat → Bool) (i : Nat) (v : Bool) : Nat → Bool := fun j => if j = i then v else st j
def nil0 : Nat → Bool := fun _ => false

theorem lt6 {P : Nat → Prop} (h0 : P 0) (h1 : P 1) (h2 : P 2) (h3 : P 3) (h4 : P 4) (h5 : P 5) : ∀ i, i < 6 → P i := by
  intro i hi
  match i, hi with
  | 0, _ => exact h0
  | 1, _ => exact h1
  | 2, _ => exact h2
  | 3, _ => exact h3
  | 4, _ => exact h4
  | 5, _ => exact h5

theorem hC_at (b : Bool) (st : Nat → Bool) (e : Int) : ∀ i, i < 6 → (hC b st e)[1 + i]? = some (.bool (st i)) := lt6 rfl rfl rfl rfl rfl rfl
theorem fC_at (st : Nat → Bool) : ∀ i, i < 6 → (fC st)[i]? = some (.bool (st i)) := lt6 rfl rfl rfl rfl rfl rfl
theorem hC_set (b : Bool) (st : Nat → Bool) (e : Int) (v : Bool) : ∀ i, i < 6 → (hC b st e).setIfInBounds (1 + i) (.bool v) = hC b (upd st i v) e := lt6 rfl rfl rfl rfl rfl rfl
theorem fC_set (st : Nat → Bool) (v : Bool) : ∀ i, i < 6 → (fC st).setIfInBounds i (.bool v) = fC (upd st i v) := lt6 rfl rfl rfl rfl rfl rfl
theorem fC_congr {f g : Nat → Bool} (h : ∀ i, i < 6 → f i = g i) : fC f = fC g := by
  unfold fC; rw [h 0 (by omega), h 1 (by omega), h 2 (by omega), h 3 (by omega), h 4 (by omega), h 5 (by omega)]
theorem hC_congr {b : Bool} {f g : Nat → Bool} {e : Int} (h : ∀ i, i < 6 → f i = g i) : hC b f e = hC b g e := by
  unfold hC; rw [h 0 (by omega), h 1 (by omega), h 2 (by omega), h 3 (by omega), h 4 (by omega), h 5 (by omega)]

structure IsH (w : World) (b : Nat) (st : Nat → Bool) (e : Int) : Prop where
  blk : w.heap[b]? = some (.cells (hC true st e) 80 (0, 0))
  e0 : 0 ≤ e
  e1 : e < 18446744073709551616

theorem IsH.lt {w : World} {b : Nat} {st : Nat → Bool} {e : Int} (h : IsH w b st e) : b < w.heap.size := lt_of_block h.blk
theorem IsH.keep {w w' : World} {b : Nat} {st : Nat → Bool} {e : Int} (h : IsH w b st e) (hb : w'.heap[b]? = w.heap[b]?) : IsH w' b st e := ⟨hb.trans h.blk, h.e0, h.e1⟩
theorem IsH.cell {w : World} {b : Nat} {st : Nat → Bool} {e : Int} (h : IsH w b st e) (i : Nat) : w.cell? ⟨b, i, none⟩ = (hC true st e)[i]? := cell_of_row _ _ _ _ _ _ h.blk
theorem IsH.at_ {w : World} {b : Nat} {st : Nat → Bool} {e : Int} (h : IsH w b st e) {i : Nat} (hi : i < 6) : w.cell? ⟨b, 1 + i, none⟩ = some (.bool (st i)) := (h.cell _).trans (hC_at _ _ _ i hi)
theorem IsH.there {w : World} {b : Nat} {st : Nat → Bool} {e : Int} (h : IsH w b st e) : w.cell? ⟨b, 0, none⟩ = some (.bool true) := (h.cell _).trans rfl
theorem IsH.end_ {w : World} {b : Nat} {st : Nat → Bool} {e : Int} (h : IsH w b st e) : w.cell? ⟨b, 7, none⟩ = some (.int .u64 e) := (h.cell _).trans rfl
theorem IsH.free {w : World} {b : Nat} {st : Nat → Bool} {e : Int} (h : IsH w b st e) (i : Nat) : w.frozen? ⟨b, i, none⟩ = false := frozen_of_row _ _ _ _ _ h.blk
theorem IsH.congr {w : World} {b : Nat} {f g : Nat → Bool} {e : Int} (h : IsH w b f e) (hf : ∀ i, i < 6 → f i = g i) : IsH w b g e := ⟨by rw [← hC_congr hf]; exact h.blk, h.e0, h.e1⟩

theorem set_heap {w : World} {b i : Nat} {c : Array Value} {t : TypeId} {v : Value} (h : w.heap[b]? = some (.cells c t (0, 0))) :
    (w.setCell ⟨b, i, none⟩ v).heap[b]? = some (.cells (c.setIfInBounds i v) t (0, 0)) := by
  rw [heap_setCell_same w b i c t v h]
theorem IsH.set {w : World} {b : Nat} {st : Nat → Bool} {e : Int} (h : IsH w b st e) {i : Nat} (hi : i < 6) (v : Bool) : IsH (w.setCell ⟨b, 1 + i, none⟩ (.bool v)) b (upd st i v) e :=
  ⟨by rw [set_heap h.blk, hC_set _ _ _ _ i hi], h.e0, h.e1⟩

/-- Block b alone has turned; new blocks may have been made. -/
structure But (b : Nat) (w w' : World) : Prop where
  os : w'.os = w.os
  tape : w'.tape = w.tape
  output : w'.output = w.output
  size : w.heap.size ≤ w'.heap.size
  block : ∀ k, k < w.heap.size → k ≠ b → w'.heap[k]? = w.heap[k]?

theorem But.refl (b : Nat) (w : World) : But b w w := ⟨rfl, rfl, rfl, Nat.le_refl _, fun _ _ _ => rfl⟩
theorem But.trans {b : Nat} {u v w : World} (h : But b u v) (k : But b v w) : But b u w :=
  ⟨k.os.trans h.os, k.tape.trans h.tape, k.output.trans h.output, Nat.le_trans h.size k.size, fun i hi hn => (k.block i (Nat.lt_of_lt_of_le hi h.size) hn).trans (h.block i hi hn)⟩
theorem But.of_below {b : Nat} {w w' : World} (h : Below w.heap.size w w') : But b w w' := ⟨h.os, h.tape, h.output, h.size, fun k hk _ => h.block k hk⟩
theorem But.below {b B : Nat} {w w' : World} (h : But b w w') (hb : B ≤ b) (hB : B ≤ w.heap.size) : Below B w w' := ⟨h.os, h.tape, h.output, h.size, fun k hk => h.block k (by omega) (by omega)⟩
theorem But.setCell {b : Nat} {v w : World} (h : But b v w) (o : Nat) (u : Value) : But b v (w.setCell ⟨b, o, none⟩ u) :=
  h.trans ⟨rfl, rfl, rfl, by rw [World.size_setCell]; exact Nat.le_refl _, fun k _ hk => heap_setCell_other _ _ _ _ hk⟩
theorem But.alloc {b : Nat} {v w : World} (h : But b v w) (o : Obj) : But b v (w.alloc o) := h.trans (But.of_below ((Below.refl _ _).alloc (Nat.le_refl _) _))
theorem But.drew {b : Nat} {v w : World} (h : But b v w) : But b v w.drew := ⟨h.os, h.tape, h.output, h.size, h.block⟩
theorem But.cell {b : Nat} {w w' : World} (h : But b w w') {g o : Nat} (hl : g < w.heap.size) (hg : g ≠ b) : w'.cell? ⟨g, o, none⟩ = w.cell? ⟨g, o, none⟩ := World.cell?_of_block (w := w) (h.block g hl hg)

/-- Is a number a family's? -/
def inB (n : Int) : Bool := decide (1 ≤ n) && decide (n ≤ 5)

set_option maxHeartbeats 400000 in
theorem in_any (n : Int) (w : World) : Calls Try.prog 42 #[.int .i64 n] w fun e w' => e = .returned (.bool (inB n)) ∧ w = w' := by
  by_cases h1 : 1 ≤ n
  · by_cases h2 : n ≤ 5
    · have e : inB n = true := by simp [inB, h1, h2]
      rw [e]
      go_enter Try.func42, Try.ntmps42
      go_wp2
      go_ret
      exact ⟨rfl, rfl⟩
    · have e : inB n = false := by simp [inB, h1, h2]
      rw [e]
      have hd : decide (n ≤ 5) = false := by simp; omega
      clear h2
      go_enter Try.func42, Try.ntmps42
      go_wp2
      go_ret
      exact ⟨rfl, rfl⟩
  · have e : inB n = false := by simp [inB, h1]
    rw [e]
    have hd : decide (1 ≤ n) = false := by simp; omega
    clear h1
    go_enter Try.func42, Try.ntmps42
    go_wp2
    go_ret
    exact ⟨rfl, rfl⟩

set_option maxHeartbeats 400000 in
theorem none_no (b : Nat) (w : World) (h0 : w.cell? ⟨b, 0, none⟩ = some (.bool true)) :
    Calls Try.prog 28 #[.pointer (some ⟨b, 0, none⟩)] w fun e w' => e = .returned (.bool false) ∧ w = w' := by
  go_enter Try.func28, Try.ntmps28
  go_wp2
  go_ret
  exact ⟨rfl, rfl⟩

set_option maxHeartbeats 400000 in
theorem zeroH (w : World) : (zeroValue 80).run Try.prog w = .ok (.agg (hC false nil0 0)) w := by kernel_rfl
theorem zeroF (w : World) : (zeroValue 78).run Try.prog w = .ok (.agg (fC nil0)) w := by kernel_rfl
theorem hC_ne (b : Bool) (st : Nat → Bool) (e : Int) : (hC b st e = #[]) = False := by simp [hC]
theorem hC_set0 (st : Nat → Bool) (e : Int) : (hC false st e).setIfInBounds 0 (.bool true) = hC true st e := by simp [hC]
theorem sizeH : (Try.prog.info? 80).map (·.size) = some 8 := by kernel_rfl
theorem sizeF : (Try.prog.info? 78).map (·.size) = some 6 := by kernel_rfl
theorem setRow_alloc_new (w : World) (c c' : Array Value) (t : TypeId) : (w.alloc (.cells c t)).setRow w.heap.size c' = w.alloc (.cells c' t) := by
  simp only [World.setRow, World.alloc]
  congr 1
  apply Array.ext_getElem?
  intro i
  rw [Array.getElem?_modify]
  by_cases h : w.heap.size = i
  · subst h
    simp
  · have h' : ¬ i = w.heap.size := fun e => h e.symm
    simp [h, h', Array.getElem?_push]

set_option maxHeartbeats 400000 in
theorem new_any (w : World) :
    Calls Try.prog 6 #[] w fun e w' => e = .returned (.pointer (some ⟨w.heap.size, 0, none⟩)) ∧ w.alloc (.cells (hC true nil0 0) 80) = w' := by
  have z := fun w => zeroH w
  have z1 := hC_ne false nil0 0
  have z2 := hC_set0 nil0 0
  go_enter Try.func6, Try.ntmps6
  go_wp2
  go_ret
  exact ⟨rfl, rfl⟩
theorem isH_new (w : World) : IsH (w.alloc (.cells (hC true nil0 0) 80)) w.heap.size nil0 0 := ⟨heap_alloc_new _ _, by omega, by omega⟩

set_option maxHeartbeats 400000 in
theorem copy_core (b : Nat) (c : Array Value) (w : World) (hb : w.heap[b]? = some (.cells c 80 (0, 0))) (h0 : w.cell? ⟨b, 0, none⟩ = some (.bool true)) (hsz : c.size = 8) (h1 : c.all (·.oneCell') = true) :
    Calls Try.prog 14 #[.pointer (some ⟨b, 0, none⟩)] w fun e w' => e = .returned (.pointer (some ⟨w.heap.size, 0, none⟩)) ∧ w.alloc (.cells c 80) = w' := by
  have z := fun w => zeroH w
  have HB := Lib.hid hb
  have H1 := Lib.hid h1
  have HS := Lib.hid hsz
  clear hb h1 hsz
  go_enter Try.func14, Try.ntmps14
  go_wp2_with (first
    | (refine wpList_load_row rfl 80 (.tmp 7) rfl b rfl 80 c (0, 0) _ HB.out Try.underlying80 rfl (by rw [HS.out]; exact sizeH) ?_)
    | (refine wpList_store_row rfl 80 (.tmp 3) (.tmp 8) rfl w.heap.size c rfl rfl 80 (hC false nil0 0) (heap_alloc_new _ _) (by rw [HS.out]; exact sizeH) (by rw [HS.out]; rfl) H1.out ?_; rw [setRow_alloc_new])
    | (go_at_call 28; refine (none_no b _ h0).mono ?_; rintro e w' ⟨rfl, rfl⟩))
  go_ret
  exact ⟨rfl, rfl⟩

theorem copy_any (b : Nat) (st : Nat → Bool) (e : Int) (w : World) (h : IsH w b st e) :
    Calls Try.prog 14 #[.pointer (some ⟨b, 0, none⟩)] w fun r w' => r = .returned (.pointer (some ⟨w.heap.size, 0, none⟩)) ∧ w.alloc (.cells (hC true st e) 80) = w' :=
  copy_core b _ w h.blk h.there rfl (by simp [hC, Value.oneCell'])
theorem isH_copy {w : World} {st : Nat → Bool} {e : Int} (e0 : 0 ≤ e) (e1 : e < 18446744073709551616) : IsH (w.alloc (.cells (hC true st e) 80)) w.heap.size st e := ⟨heap_alloc_new _ _, e0, e1⟩
end Go.Proofs.Ytcljkcgccahlcaa
