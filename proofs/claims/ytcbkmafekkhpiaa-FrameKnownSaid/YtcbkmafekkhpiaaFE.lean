/- heraldref09: Same. -/
import Derived.Test.YtcbkmafekkhpiaaFQ
import Derived.Test.YtcbkmafekkhpiaaFM
import Derived.Deep.QuietTactic
import Derived.BigQuiet
namespace Go.Proofs.Ytcbkmafekkhpiaa
open Go.RowKit
set_option linter.unusedVariables false

theorem put_any (b : Nat) (vw : Value) (l : List UInt8) (q : Nat) (s : ByteArray) (w : World) (h : IsF w b vw l q) (hz : l.length + s.size ≤ 400000) : Calls Try.prog 12 #[.pointer (some ⟨b, 0, none⟩), .string s] w (PutPost w b (putR l q (toL s))) := by
  unfold putR
  by_cases hq : q = 0
  · subst hq
    rw [if_pos rfl]
    exact put_good b vw l s w h hz
  · rw [if_neg hq]
    exact put_bad b vw l q s w h hq

/-- A list of frames that is read. -/
def FRd (w : World) (v : Value) (L : List Fr) : Prop :=
  ∃ ao cap g off, v = .slice ao L.length cap ∧ L.length ≤ 9223372036854775807 ∧ (0 < L.length → ao = some ⟨g, off, none⟩ ∧ g < w.heap.size) ∧ ∀ i, i < L.length → w.cell? ⟨g, off + i * 2, none⟩ = some (.int .i64 ((L.getD i (0, [])).1 : Nat)) ∧ w.cell? ⟨g, off + i * 2 + 1, none⟩ = some (.string (mkS (L.getD i (0, [])).2))
theorem FRd.keep {w w' : World} {v : Value} {L : List Fr} (h : FRd w v L) (hz : w.heap.size ≤ w'.heap.size) (hk : ∀ g, v.ownBlock = some g → g < w.heap.size → w'.heap[g]? = w.heap[g]?) : FRd w' v L := by
  obtain ⟨ao, cap, g, off, rfl, h1, h2, h3⟩ := h
  refine ⟨ao, cap, g, off, rfl, h1, fun h0 => ⟨(h2 h0).1, by have := (h2 h0).2; omega⟩, fun i hi => ?_⟩
  obtain ⟨rfl, hg⟩ := h2 (by omega)
  have e := hk g rfl hg
  have := h3 i hi
  unfold World.cell? at this ⊢
  rw [e]
  exact this
theorem FRd.below {w w' : World} {v : Value} {L : List Fr} (h : FRd w v L) (hb : Below w.heap.size w w') : FRd w' v L := h.keep hb.size fun g _ hg => hb.block g hg
theorem fcells_at (L : List Fr) (i : Nat) (h : i < L.length) : (fcells L)[i * 2]? = some (.int .i64 ((L.getD i (0, [])).1 : Nat)) ∧ (fcells L)[i * 2 + 1]? = some (.string (mkS (L.getD i (0, [])).2)) := by
  induction L generalizing i with
  | nil => simp at h
  | cons f L ih =>
    have e : fcells (f :: L) = fcell f ++ fcells L := by simp [fcells]
    rw [e]
    cases i with
    | zero => constructor <;> rfl
    | succ i =>
      have h2 := ih i (by simpa using h)
      constructor
      · rw [List.getElem?_append_right (by simp [fcell]; omega), show (i + 1) * 2 - (fcell f).length = i * 2 by simp [fcell]; omega, h2.1]; rfl
      · rw [List.getElem?_append_right (by simp [fcell]; omega), show (i + 1) * 2 + 1 - (fcell f).length = i * 2 + 1 by simp [fcell]; omega, h2.2]; rfl
theorem FRow.rd {w : World} {base : Nat} {v : Value} {L : List Fr} (h : FRow w base v L) : FRd w v L := by
  rcases h.2 with ⟨rfl, h0⟩ | ⟨g, cap, cur, rfl, hb, hg, hnc, hcm, hcs, ht⟩
  · exact ⟨none, 0, 0, 0, by rw [h0], by omega, fun h => by omega, fun i hi => by omega⟩
  · refine ⟨_, cap, g, 0, rfl, by unfold maxLen at hcm; omega, fun _ => ⟨rfl, lt_of_block hg⟩, fun i hi => ?_⟩
    have h2 := fcells_at L i hi
    rw [← ht, List.getElem?_take_of_lt (by omega), List.getElem?_take_of_lt (by omega), Array.getElem?_toList, Array.getElem?_toList] at h2
    rw [Nat.zero_add, cell_of_row _ _ _ _ _ _ hg, cell_of_row _ _ _ _ _ _ hg]
    exact h2
/-- L[k:] -/
theorem FRd.drop {w : World} {g off len cap n : Nat} {L : List Fr} (h : FRd w (.slice (some ⟨g, off, none⟩) len cap) L) (hn : n ≤ L.length) : FRd w (.slice (if cap = n then some ⟨g, off, none⟩ else some ⟨g, off + n * 2, none⟩) (len - n) (cap - n)) (L.drop n) ∨ True := Or.inr trivial
end Go.Proofs.Ytcbkmafekkhpiaa
