/- frame: none, New, Left, Put. -/
import Derived.Test.YtcbkmafekkhpiaaFS
import Derived.Deep.RegionHeld3
namespace Go.Proofs.Ytcbkmafekkhpiaa
open Go.RowKit
set_option linter.unusedVariables false

set_option maxHeartbeats 400000 in
theorem none_any (b : Nat) (vw : Value) (l : List UInt8) (q : Nat) (w : World) (h : IsF w b vw l q) : Calls Try.prog 21 #[.pointer (some ⟨b, 0, none⟩)] w fun e w' => e = .returned (.bool false) ∧ w = w' := by
  have h0 : w.cell? ⟨b, 0, none⟩ = some (.bool true) := cell_of_row _ _ _ _ _ _ h.blk
  clear h
  go_enter Try.func21, Try.ntmps21
  go_wp2
  go_ret
  exact ⟨rfl, rfl⟩
set_option maxHeartbeats 400000 in
theorem new_any (w : World) : Calls Try.prog 11 #[] w fun e w' => e = .returned (.pointer (some ⟨w.heap.size, 0, none⟩)) ∧ w.alloc (.cells #[.bool true, .slice none 0 0, .int .i64 0, .int .u8 0, .int .u8 0] 50) = w' := by
  go_enter Try.func11, Try.ntmps11
  go_wp2
  go_ret
  exact ⟨rfl, rfl⟩
theorem isF_new (w : World) : IsF (w.alloc (.cells #[.bool true, .slice none 0 0, .int .i64 0, .int .u8 0, .int .u8 0] 50)) w.heap.size (.slice none 0 0) [] 0 :=
  ⟨heap_alloc_new _ _, .inl ⟨rfl, rfl⟩, (fun g hg => by cases hg), (fun _ => rfl)⟩

set_option maxHeartbeats 400000 in
theorem left_any (b : Nat) (vw : Value) (l : List UInt8) (q : Nat) (w : World) (h : IsF w b vw l q) : Calls Try.prog 15 #[.pointer (some ⟨b, 0, none⟩)] w fun e w' => e = .returned (.int .i64 (l.length : Nat)) ∧ w = w' := by
  have H := Lib.hid h
  rcases h.rd with ⟨rfl, rfl⟩ | ⟨g, cap, rfl, _⟩
  all_goals
    have h1 := (cell_of_row _ _ 1 _ _ _ H.out.blk)
    go_enter Try.func15, Try.ntmps15
    go_wp2_with fail
    refine (none_any b _ _ q _ H.out).mono ?_
    rintro e w' ⟨rfl, rfl⟩
    go_wp2
    go_ret
    exact ⟨rfl, rfl⟩

def putR (l : List UInt8) (q : Nat) (s : List UInt8) : List Fr × Nat × List UInt8 := if q = 0 then cut (l ++ s) else ([], q, [])
def PutPost (w : World) (b : Nat) (R : List Fr × Nat × List UInt8) (r : Ending) (w' : World) : Prop :=
  ∃ vf vw, r = .returned (.tuple #[vf, vd R.2.1]) ∧ FRow w' w.heap.size vf R.1 ∧ IsF w' b vw R.2.2 R.2.1 ∧ But b w w' ∧ (R.2.1 = 0 → ∀ g, vw.ownBlock = some g → w.heap.size ≤ g)
def sliceLen : Value → Nat
  | .slice _ n _ => n
  | _ => 0

set_option maxHeartbeats 4000000 in
theorem put_bad (b : Nat) (vw : Value) (l : List UInt8) (q : Nat) (s : ByteArray) (w : World) (h : IsF w b vw l q) (hq : q ≠ 0) : Calls Try.prog 12 #[.pointer (some ⟨b, 0, none⟩), .string s] w (PutPost w b ([], q, [])) := by
  have z := fun w => zeroV w
  have hl := h.nil hq
  subst hl
  have hal : Below w.heap.size w (w.alloc (.cells #[.int .i64 0, .int .u8 0, .int .u8 0] 34)) := (Below.refl _ _).alloc (Nat.le_refl _) _
  have hF : IsF (w.alloc (.cells #[.int .i64 0, .int .u8 0, .int .u8 0] 34)) b vw [] q := h.below hal
  have hblk := hF.blk
  rw [if_neg hq, if_neg hq] at hblk
  have H := Lib.hid hF
  have HAL := Lib.hid hal
  have hg0 := heap_alloc_new w (.cells #[.int .i64 0, .int .u8 0, .int .u8 0] 34)
  have hbw := h.lt
  have HQ := Lib.hid hq
  clear hF h hal hq
  go_enter Try.func12, Try.ntmps12
  go_wp2_with fail
  generalize hW : w.alloc (.cells #[.int .i64 0, .int .u8 0, .int .u8 0] 34) = W at *
  have c2 : W.cell? ⟨b, 2, none⟩ = some (.int .i64 3) := cell_of_row _ _ _ _ _ _ hblk
  have c3 : W.cell? ⟨b, 3, none⟩ = some (.int .u8 1) := cell_of_row _ _ _ _ _ _ hblk
  have c4 : W.cell? ⟨b, 4, none⟩ = some (.int .u8 (q : Int)) := cell_of_row _ _ _ _ _ _ hblk
  have p0 : W.cell? ⟨w.heap.size, 0, none⟩ = some (.int .i64 0) := cell_of_row _ _ _ _ _ _ hg0
  have p1 : W.cell? ⟨w.heap.size, 1, none⟩ = some (.int .u8 0) := cell_of_row _ _ _ _ _ _ hg0
  have p2 : W.cell? ⟨w.heap.size, 2, none⟩ = some (.int .u8 0) := cell_of_row _ _ _ _ _ _ hg0
  have f0 := frozen_of_row _ _ 0 _ _ hg0
  have f1 := frozen_of_row _ _ 1 _ _ hg0
  have f2 := frozen_of_row _ _ 2 _ _ hg0
  have HG0 := Lib.hid hg0
  clear hblk hg0 hW
  refine (none_any b _ _ q _ H.out).mono ?_
  rintro e w' ⟨rfl, rfl⟩
  go_wp2_with fail
  refine (none_any b _ _ q _ H.out).mono ?_
  rintro e w' ⟨rfl, rfl⟩
  go_wp2_with fail
  go_region
  have HP : Hid (PutPost w b ([], q, []) (.returned (.tuple #[.slice none 0 0, .agg #[.int .i64 3, .int .u8 1, .int .u8 (q : Int)]])) (((W.setCell ⟨w.heap.size, 0, none⟩ (.int .i64 3)).setCell ⟨w.heap.size, 1, none⟩ (.int .u8 1)).setCell ⟨w.heap.size, 2, none⟩ (.int .u8 (q : Int))).drew) := by
    have hb : Below w.heap.size w (((W.setCell ⟨w.heap.size, 0, none⟩ (.int .i64 3)).setCell ⟨w.heap.size, 1, none⟩ (.int .u8 1)).setCell ⟨w.heap.size, 2, none⟩ (.int .u8 (q : Int))).drew := (set3_below HAL.out (Nat.le_refl _)).drew
    have hother : ∀ g, g ≠ w.heap.size → ((((W.setCell ⟨w.heap.size, 0, none⟩ (.int .i64 3)).setCell ⟨w.heap.size, 1, none⟩ (.int .u8 1)).setCell ⟨w.heap.size, 2, none⟩ (.int .u8 (q : Int))).drew).heap[g]? = W.heap[g]? := fun g hg => by
      show (((W.setCell ⟨w.heap.size, 0, none⟩ _).setCell ⟨w.heap.size, 1, none⟩ _).setCell ⟨w.heap.size, 2, none⟩ _).heap[g]? = _
      rw [heap_setCell_other _ _ _ _ hg, heap_setCell_other _ _ _ _ hg, heap_setCell_other _ _ _ _ hg]
    refine ⟨_, vw, ?_, FRow.nil _ _, ⟨(hother b (by omega)).trans H.out.blk, ?_, fun g hg => ?_, fun _ => rfl⟩, But.of_below hb, fun h => absurd h HQ.out⟩
    · show _ = Ending.returned (.tuple #[_, vd q]); unfold vd; rw [if_neg HQ.out, if_neg HQ.out]
    · rcases H.out.rd with ⟨rfl, _⟩ | ⟨g, cap, rfl, _, h2, h3, _⟩
      · exact .inl ⟨rfl, rfl⟩
      · exact .inr ⟨g, cap, rfl, Nat.zero_le _, h2, by simpa using h3, fun i hi => absurd hi (by simp)⟩
    · have := H.out.own g hg; exact ⟨by simpa using this.1, this.2⟩
  have hR : ((((W.setCell ⟨w.heap.size, 0, none⟩ (.int .i64 3)).setCell ⟨w.heap.size, 1, none⟩ (.int .u8 1)).setCell ⟨w.heap.size, 2, none⟩ (.int .u8 (q : Int))).drew).heap[w.heap.size]? = some (.cells #[.int .i64 3, .int .u8 1, .int .u8 (q : Int)] 34 (0, 0)) := set3 HG0.out
  generalize (((W.setCell ⟨w.heap.size, 0, none⟩ (.int .i64 3)).setCell ⟨w.heap.size, 1, none⟩ (.int .u8 1)).setCell ⟨w.heap.size, 2, none⟩ (.int .u8 (q : Int))).drew = w9 at *
  have r0 := cell_of_row _ _ 0 _ _ _ hR
  have r1 := cell_of_row _ _ 1 _ _ _ hR
  have r2 := cell_of_row _ _ 2 _ _ _ hR
  clear hR
  go_wp2_with fail
  exact bodyPost_ret (v := .tuple #[.slice none 0 0, .agg #[.int .i64 3, .int .u8 1, .int .u8 (q : Int)]]) (by simp [results, Try.results12, go_sem, r0, r1, r2]) rfl HP.out
end Go.Proofs.Ytcbkmafekkhpiaa
