/- prim.masked. -/
import Derived.Test.YtcljkcgccahlcaaTD
import Derived.Lib.ConvBytes
import Derived.Laws.BytesArg
import Derived.Lib.BufferMore
namespace Go.Proofs.Ytcljkcgccahlcaa
open Go.RowKit
set_option linter.unusedVariables false

/-- Block g holds these bytes at its head, and they may be written. -/
def BRow (w : World) (g : Nat) (ys : List Int) : Prop := ∃ C fr, w.heap[g]? = some (.cells C 5 fr) ∧ (∀ j, j < ys.length → C[j]? = some (.int .u8 (ys.getD j 0))) ∧ ys.length ≤ fr.1
theorem BRow.cell {w : World} {g : Nat} {ys : List Int} (h : BRow w g ys) {j : Nat} (hj : j < ys.length) : w.cell? ⟨g, j, none⟩ = some (.int .u8 (ys.getD j 0)) := by
  obtain ⟨C, fr, h1, h2, _⟩ := h
  rw [cell_of_row _ _ _ _ _ _ h1]; exact h2 j hj
theorem BRow.free {w : World} {g : Nat} {ys : List Int} (h : BRow w g ys) {j : Nat} (hj : j < ys.length) : w.frozen? ⟨g, j, none⟩ = false := by
  obtain ⟨C, ⟨lo, hi⟩, h1, _, h3⟩ := h
  simp only at h3
  simp [World.frozen?, h1]
  omega
theorem BRow.lt {w : World} {g : Nat} {ys : List Int} (h : BRow w g ys) : g < w.heap.size := by obtain ⟨C, fr, h1, _⟩ := h; exact lt_of_block h1
theorem BRow.set {w : World} {g : Nat} {ys : List Int} (h : BRow w g ys) {j : Nat} (hj : j < ys.length) (v : Int) : BRow (w.setCell ⟨g, j, none⟩ (.int .u8 v)) g (ys.set j v) := by
  obtain ⟨C, fr, h1, h2, h3⟩ := h
  refine ⟨_, fr, Lib.heap_setCell_same h1 _, fun i hi => ?_, by simpa using h3⟩
  have hi' : i < ys.length := by simpa using hi
  have hc := h2 i hi'
  by_cases e : i = j
  · subst e
    have hlt : i < C.size := (Array.getElem?_eq_some_iff.1 hc).1
    simp [hlt, hi', List.getD_eq_getElem?_getD]
  · rw [Array.getElem?_setIfInBounds_ne (Ne.symm e), hc]
    simp [List.getD_eq_getElem?_getD, List.getElem?_set_ne (Ne.symm e)]
theorem BRow.keep {w w' : World} {g : Nat} {ys : List Int} (h : BRow w g ys) (hb : w'.heap[g]? = w.heap[g]?) : BRow w' g ys := by
  obtain ⟨C, fr, h1, h2⟩ := h
  exact ⟨C, fr, hb.trans h1, h2⟩

def bytesL (s : ByteArray) : List Int := s.data.toList.map fun (b : UInt8) => (b.toNat : Int)
theorem bytesL_len (s : ByteArray) : (bytesL s).length = s.size := by simp [bytesL]
theorem brow_new (w : World) (s : ByteArray) : BRow (Lib.bytesWorld w 5 s) w.heap.size (bytesL s) := by
  refine ⟨_, _, Lib.bytesWorld_at_new w 5 s, fun j hj => ?_, ?_⟩
  · rw [bytesL_len] at hj
    have hj' : j < s.data.size := hj
    simp [Lib.bytesCells, Array.getElem?_append, hj, bytesL, List.getD_eq_getElem?_getD]
  · rw [bytesL_len]
    simp [Lib.bytesCells]

/-- A byte of an address of whose bits 'left' are kept. -/
def maskF (left b : Int) : Int := if left ≤ 0 then 0 else if left < 8 then bits BinOp.and IntKind.u8 b (IntKind.u8.wrap (255 * 2 ^ (8 - left).toNat)) else b
def mTo (l : List Int) (n : Int) : Nat → List Int
  | 0 => l
  | k + 1 => (mTo l n k).set k (maskF (n - 8 * k) ((mTo l n k).getD k 0))
theorem mTo_len (l : List Int) (n : Int) : ∀ k, (mTo l n k).length = l.length
  | 0 => rfl
  | k + 1 => by simp [mTo, mTo_len l n k]

def maskS (s : ByteArray) (n : Int) : ByteArray := strOfNums (mTo (bytesL s) n s.size)

set_option maxRecDepth 100000 in
set_option maxHeartbeats 4000000 in
theorem masked_any (s : ByteArray) (n : Int) (h0 : 0 < s.size) (h16 : s.size ≤ 16) (n0 : 0 ≤ n) (n1 : n ≤ 128) (w : World) :
    Calls Try.prog 64 #[.string s, .int .i64 n] w fun e w' => e = .returned (.string (maskS s n)) ∧ Below w.heap.size w w' := by
  have hconv := Lib.run_convert_string_bytes (P := Try.prog) w 9 130 5 s Try.underlying9 Try.underlying130 Try.underlying5
  have hrow := brow_new w s
  have hold : Below w.heap.size w (Lib.bytesWorld w 5 s) := ⟨rfl, rfl, rfl, by rw [Lib.bytesWorld_size]; omega, fun k hk => Lib.bytesWorld_at_old w _ s k hk⟩
  obtain ⟨W, hW⟩ : ∃ W, Lib.bytesWorld w 5 s = W := ⟨_, rfl⟩
  rw [hW] at hconv hrow hold
  clear hW
  obtain ⟨cap, hcap⟩ : ∃ c, grownCap w s.size 0 5 = c := ⟨_, rfl⟩
  rw [hcap] at hconv
  clear hcap
  go_enter Try.func64, Try.ntmps64
  go_wp2_with fail
  go_loopw [7, 12] (fun _ i wr => ∃ k : Nat, i = .int .i64 k ∧ k ≤ s.size ∧ Below w.heap.size w wr ∧ BRow wr w.heap.size (mTo (bytesL s) n k)) (fun _ i _ => s.size - (intOf i).toNat)
  case atStart => exact ⟨0, rfl, Nat.zero_le _, hold, hrow⟩
  case round =>
    obtain ⟨k, rfl, hk, hbel, hbr⟩ := hrel
    have hlen := mTo_len (bytesL s) n k
    rw [bytesL_len] at hlen
    have HLEN := Lib.hid hlen
    clear hlen hrow hold hconv
    by_cases hlt : k < s.size
    · have i1 : (0 : Int) ≤ (k : Int) := by omega
      have i2 : (k : Int) < (s.size : Int) := by omega
      by_cases h1 : n - 8 * (k : Int) ≤ 0
      · have hs : Hid ((mTo (bytesL s) n (k + 1)) = (mTo (bytesL s) n k).set k 0) := by show _ = _; simp [mTo, maskF, h1]
        have hfz := hbr.free (j := k) (by rw [HLEN.out]; exact hlt)
        have hc := hbr.cell (j := k) (by rw [HLEN.out]; exact hlt)
        have hnew := hbr.set (j := k) (by rw [HLEN.out]; exact hlt) 0
        rw [← hs.out] at hnew
        have hbel2 := hbel.setCell (p := ⟨w.heap.size, k, none⟩) (by show w.heap.size ≤ w.heap.size; omega) (.int .u8 0)
        clear hbr hbel hs
        generalize (mTo (bytesL s) n k).getD k 0 = b at *
        go_wp2
        go_roundw
        case rel => exact ⟨k + 1, by go_num, by omega, hbel2, hnew⟩
        case measure => simp [intOf]; omega
      · by_cases h8 : n - 8 * (k : Int) < 8
        · have hfz := hbr.free (j := k) (by rw [HLEN.out]; exact hlt)
          have hc := hbr.cell (j := k) (by rw [HLEN.out]; exact hlt)
          obtain ⟨b, hb⟩ : ∃ b, (mTo (bytesL s) n k).getD k 0 = b := ⟨_, rfl⟩
          rw [hb] at hc
          have HB := Lib.hid hb
          clear hb
          obtain ⟨left, hleft⟩ : ∃ left : Int, n - 8 * (k : Int) = left := ⟨_, rfl⟩
          rw [hleft] at h1 h8
          have h7 : left = 1 ∨ left = 2 ∨ left = 3 ∨ left = 4 ∨ left = 5 ∨ left = 6 ∨ left = 7 := by omega
          have hs : Hid (mTo (bytesL s) n (k + 1) = (mTo (bytesL s) n k).set k (bits BinOp.and IntKind.u8 b (IntKind.u8.wrap (255 * 2 ^ (8 - left).toNat)))) := by show _ = _; simp only [mTo]; rw [hleft, HB.out]; simp [maskF, h1, h8]
          have hset : ∀ v, BRow (wr.drew.setCell ⟨w.heap.size, k, none⟩ (.int .u8 v)) w.heap.size ((mTo (bytesL s) n k).set k v) := fun v => (hbr.keep (w' := wr.drew) rfl).set (by rw [HLEN.out]; exact hlt) v
          have HSET := Lib.hid hset
          have hbel2 : ∀ v, Below w.heap.size w (wr.drew.setCell ⟨w.heap.size, k, none⟩ v) := fun v => hbel.drew.setCell (p := ⟨w.heap.size, k, none⟩) (by show w.heap.size ≤ w.heap.size; omega) v
          have HBEL := Lib.hid hbel2
          clear h1 h8 hset hbel2 hbel hbr
          rcases h7 with rfl | rfl | rfl | rfl | rfl | rfl | rfl
          all_goals
            go_wp2
            go_region
            all_goals
              go_wp2
              go_roundw
              case rel => exact ⟨k + 1, by go_num, by omega, HBEL.out _, by rw [hs.out]; exact HSET.out _⟩
              case measure => simp [intOf]; omega
        · have hs : Hid (mTo (bytesL s) n (k + 1) = mTo (bytesL s) n k) := by
            show _ = _
            simp only [mTo, maskF, h1, h8, if_false]
            apply List.ext_getElem?
            intro j
            by_cases e : j = k
            · subst e
              have hlt2 : j < (mTo (bytesL s) n j).length := by rw [HLEN.out]; exact hlt
              simp [hlt2, List.getD_eq_getElem?_getD]
            · rw [List.getElem?_set_ne (Ne.symm e)]
          go_wp2
          go_roundw
          case rel => exact ⟨k + 1, by go_num, by omega, hbel, by rw [hs.out]; exact hbr⟩
          case measure => simp [intOf]; omega
    · obtain rfl : k = s.size := by omega
      have hback := run_convert_bytes_arg (P := Try.prog) wr 130 5 Try.underlying130 Try.underlying5 w.heap.size 0 s.size cap (mTo (bytesL s) n s.size) HLEN.out (fun i hi => by rw [Nat.zero_add]; exact hbr.cell (by rw [HLEN.out]; exact hi)) 9 Try.underlying9
      clear hbr
      go_wp2
      go_ret
      exact ⟨rfl, hbel⟩
end Go.Proofs.Ytcljkcgccahlcaa
