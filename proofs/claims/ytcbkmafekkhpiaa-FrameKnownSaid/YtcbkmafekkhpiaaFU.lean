/- frame: what FrameKnown puts in: plain laws; a made row of bytes. -/
import Derived.Test.YtcbkmafekkhpiaaFJ
namespace Go.Proofs.Ytcbkmafekkhpiaa
open Go.RowKit
set_option linter.unusedVariables false

def knownS : List ByteArray := [⟨#[0, 18, 4]⟩, ⟨#[0, 19, 6]⟩, ⟨#[0, 19, 1]⟩, ⟨#[16, 1, 2]⟩, ⟨#[0, 20, 4]⟩, ⟨#[0, 19, 0]⟩, ⟨#[0, 22, 2]⟩, ⟨#[0, 24, 5]⟩]
theorem known_at (k : Nat) (h : k < 8) : ((knownS.map Value.string).toArray)[k]? = some (.string (knownS.getD k ⟨#[]⟩)) := by
  rw [List.getElem?_toArray, List.getElem?_map, List.getD_eq_getElem?_getD, List.getElem?_eq_getElem (show k < knownS.length from h)]
  rfl
theorem known_cut (k : Nat) (h : k < 8) : putR [] 0 (toL (keepS.extract 0 16 ++ knownS.getD k ⟨#[]⟩)) = ([], if k = 1 ∨ k = 5 then 3 else 2, []) ∧ (keepS.extract 0 16 ++ knownS.getD k ⟨#[]⟩).size = 19 := by
  have hall : ∀ k : Fin 8, (List.replicate 16 255 ++ toL (knownS.getD k.1 ⟨#[]⟩)).length = 19 ∧ subL (List.replicate 16 255 ++ toL (knownS.getD k.1 ⟨#[]⟩)) = if k.1 = 1 ∨ k.1 = 5 then 3 else 2 := by decide
  obtain ⟨h1, h2⟩ := hall ⟨k, h⟩
  dsimp only at h1 h2
  have he : toL (keepS.extract 0 16 ++ knownS.getD k ⟨#[]⟩) = List.replicate 16 255 ++ toL (knownS.getD k ⟨#[]⟩) := by
    unfold toL
    rw [ByteArray.data_append, Array.toList_append]
    rfl
  rw [← toL_len, he]
  refine ⟨?_, h1⟩
  unfold putR
  rw [if_pos rfl, List.nil_append, cut_bad (by omega) (by rw [h2]; split <;> decide), h2]
theorem two_cut : putR [] 0 (toL (keepS ++ (keepS.extract 0 15) ++ ⟨#[0, 0, 19, 4]⟩)) = ([(4, [])], 1, []) := by
  have he : toL (keepS ++ (keepS.extract 0 15) ++ ⟨#[0, 0, 19, 4]⟩) = mk (4, []) ++ (List.replicate 15 255 ++ [0, 0, 19, 4]) := by
    unfold toL
    rw [ByteArray.data_append, ByteArray.data_append, Array.toList_append, Array.toList_append]
    rfl
  unfold putR
  rw [if_pos rfl, List.nil_append, he, cut_mk _ _ ok_keep, cut_bad (by decide) (by decide)]
  rfl
def knownF : List (Nat × ByteArray) := [(4, ⟨#[97]⟩), (1, ⟨#[49, 50, 51, 52, 53, 54, 55, 56, 57]⟩), (6, ⟨#[]⟩), (0, ⟨#[]⟩), (5, ⟨#[49, 50, 51]⟩)]
def knownC : Array Value := #[.int .i64 4, .string ⟨#[97]⟩, .int .i64 1, .string ⟨#[49, 50, 51, 52, 53, 54, 55, 56, 57]⟩, .int .i64 6, .string ⟨#[]⟩, .int .i64 0, .string ⟨#[]⟩, .int .i64 5, .string ⟨#[49, 50, 51]⟩]
theorem knownF_at (k : Nat) (h : k < 5) : knownC[k * 2]? = some (.int .i64 ((knownF.getD k (0, ⟨#[]⟩)).1 : Nat)) ∧ knownC[k * 2 + 1]? = some (.string (knownF.getD k (0, ⟨#[]⟩)).2) ∧ (makeR ((knownF.getD k (0, ⟨#[]⟩)).1 : Nat) (toL (knownF.getD k (0, ⟨#[]⟩)).2)).2 = 2 ∧ (knownF.getD k (0, ⟨#[]⟩)).2.size ≤ 1000000 := by
  match k, h with
  | 0, _ => exact ⟨rfl, rfl, by decide, by decide⟩
  | 1, _ => exact ⟨rfl, rfl, by decide, by decide⟩
  | 2, _ => exact ⟨rfl, rfl, by decide, by decide⟩
  | 3, _ => exact ⟨rfl, rfl, by decide, by decide⟩
  | 4, _ => exact ⟨rfl, rfl, by decide, by decide⟩
theorem long_err : (makeR 2 (List.replicate 4078 0)).2 = 3 := by
  unfold makeR
  rw [if_neg (by decide), if_pos (by rw [List.length_replicate]; decide)]
theorem long_mk (L : List UInt8) (h : L.length = 4077) : (makeR 2 L).2 = 0 ∧ (makeR 2 L).1.length = 4096 := by
  unfold makeR
  rw [if_neg (by decide), if_neg (by omega), h, if_neg (by decide)]
  refine ⟨rfl, ?_⟩
  show (mk (2, L)).length = 4096
  rw [mk_len, h]
theorem long_ok : (makeR 2 (List.replicate 4077 0)).2 = 0 ∧ (makeR 2 (List.replicate 4077 0)).1.length = 4096 := long_mk _ List.length_replicate

/-- make([]byte, n): a row of zeros. -/
theorem run_make43z (w : World) (n : Nat) (hn : n ≤ 1000000) : (Instr.makeSlice 43 (.int .i64 (n : Int)) (.int .i64 (n : Int))).run Try.prog w = .ok (.slice (some ⟨w.heap.size, 0, none⟩) n n) (w.alloc (.cells (bcells (List.replicate n 0)).toArray 5)) := by
  obtain ⟨i, hi, hiz, his, hib⟩ := info_b
  have hrun := run_make (P := Try.prog) w 43 5 i (.int .u8 0) Try.underlying43 hi hiz .i64 .i64 n n (by omega) (Int.le_refl _) (by rw [hib]; omega) (by omega)
  rw [his, Int.toNat_natCast, Nat.mul_one] at hrun
  rw [hrun]
  congr 3
  apply Array.ext
  · rw [size_madeCells]; simp [bcells]
  · intro j h1 h2
    rw [size_madeCells] at h1
    simp [madeCells, bcells, Value.cells, Nat.mod_one]
theorem zeros_string {w : World} {g n : Nat} (hn : n ≤ 1000000) (h : w.heap[g]? = some (.cells (bcells (List.replicate n 0)).toArray 5 (0, 0))) : (convert 43 9 (.slice (some ⟨g, 0, none⟩) n n)).run Try.prog w = .ok (.string (mkS (List.replicate n 0))) w := by
  have hb : BRd w (.slice (some ⟨g, 0, none⟩) (List.replicate n (0 : UInt8)).length (List.replicate n (0 : UInt8)).length) (List.replicate n 0) := by
    refine ⟨_, _, g, 0, rfl, Nat.le_refl _, by rw [List.length_replicate]; unfold maxLen; omega, fun _ => ⟨rfl, lt_of_block h⟩, fun i hi => by rw [Nat.zero_add, cell_of_row _ _ _ _ _ _ h, List.getElem?_toArray]; exact bcells_at _ i hi⟩
  rw [List.length_replicate] at hb
  exact hb.string rfl
theorem zeros_any (n : Nat) (m : Int) (hm : m = (n : Int)) (hn : n ≤ 1000000) : ∃ (Z : Array Value) (S : ByteArray), (∀ w : World, (Instr.makeSlice 43 (.int .i64 m) (.int .i64 m)).run Try.prog w = .ok (.slice (some ⟨w.heap.size, 0, none⟩) n n) (w.alloc (.cells Z 5))) ∧
    (∀ w : World, (convert 43 9 (.slice (some ⟨w.heap.size, 0, none⟩) n n)).run Try.prog (w.alloc (.cells Z 5)) = .ok (.string S) (w.alloc (.cells Z 5))) ∧ toL S = List.replicate n 0 ∧ S.size = n := by
  subst hm
  refine ⟨_, _, fun w => run_make43z w n hn, fun w => zeros_string hn (heap_alloc_new w _), rfl, ?_⟩
  rw [mkS_size, List.length_replicate]
end Go.Proofs.Ytcbkmafekkhpiaa
