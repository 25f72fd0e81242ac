/- TopRestarts: paths in a row, as they lie; the sessions with a time turned. -/
import Derived.Test.YtcljkcgccahlcaaSE
import Derived.Test.YtcljkcgccahlcaaTU
import Derived.Deep.MidRow
import Derived.Lib.QuietBelow
import Derived.BigQuiet
namespace Go.Proofs.Ytcljkcgccahlcaa
open Go.RowKit Go.Sort
set_option linter.unusedVariables false

theorem paLs_at (F : Tbl) : ∀ (L : List Pl) (k j : Nat), k < L.length → j < 29 → (paLs F L)[k * 29 + j]? = (paC (L.getD k default) ((F (L.getD k default)).getD To.zero))[j]?
  | [], k, j, h, _ => by simp at h
  | p :: L, 0, j, h, hj => by
    have e : paLs F (p :: L) = paL p ((F p).getD To.zero) ++ paLs F L := rfl
    rw [e, Nat.zero_mul, Nat.zero_add, List.getElem?_append_left (by rw [pa_len]; omega)]
    simp [paL]
  | p :: L, k + 1, j, h, hj => by
    have e : paLs F (p :: L) = paL p ((F p).getD To.zero) ++ paLs F L := rfl
    rw [e, List.getElem?_append_right (by rw [pa_len]; omega), pa_len, show (k + 1) * 29 + j - 29 = k * 29 + j from by omega, paLs_at F L k j (by simpa using h) hj]
    simp
theorem paLs_len (F : Tbl) : ∀ L : List Pl, (paLs F L).length = L.length * 29
  | [] => rfl
  | p :: L => by
    have e : paLs F (p :: L) = paL p ((F p).getD To.zero) ++ paLs F L := rfl
    rw [e, List.length_append, pa_len, paLs_len F L, List.length_cons]; omega

/-- A path lies at o of block g. -/
def PaAt (w : World) (g o : Nat) (p : Pl) (x : To) : Prop := ∀ j, j < 29 → w.cell? ⟨g, o + j, none⟩ = (paC p x)[j]?
theorem PaAt.keep {w w' : World} {g o : Nat} {p : Pl} {x : To} (h : PaAt w g o p x) (hb : w'.heap[g]? = w.heap[g]?) : PaAt w' g o p x :=
  fun j hj => (World.cell?_of_block (w := w) hb).trans (h j hj)

/-- Where a row of paths lies. -/
theorem paRow_open {w : World} {base : Nat} {v : Value} {F : Tbl} {L : List Pl} (h : w.ownsRow base 68 29 v L.length (paLs F L)) :
    ∃ ao cap g off, v = .slice ao L.length cap ∧ L.length ≤ cap ∧ (0 < L.length → ao = some ⟨g, off, none⟩ ∧ base ≤ g ∧ g < w.heap.size) ∧ ∀ k, k < L.length → PaAt w g (off + k * 29) (L.getD k default) ((F (L.getD k default)).getD To.zero) := by
  rcases h.2 with ⟨rfl, h0⟩ | ⟨g, cap, cur, rfl, hb, hg, hc, hm, hs, ht⟩
  · refine ⟨none, 0, 0, 0, by rw [h0], by omega, fun hp => by omega, fun k hk => by omega⟩
  · refine ⟨_, cap, g, 0, rfl, hc, fun _ => ⟨rfl, hb, lt_of_block hg⟩, fun k hk j hj => ?_⟩
    rw [cell_of_row _ _ _ _ _ _ hg, ← paLs_at F L k j hk hj, ← ht, List.getElem?_take_of_lt (by omega)]
    simp

/-- A row of cells off the middle of one. -/
theorem extract_set_out {C : Array Value} {a b i : Nat} {v : Value} (h : i < a ∨ b ≤ i) : (C.setIfInBounds i v).extract a b = C.extract a b := by
  apply Array.ext_getElem?
  intro j
  rw [Array.getElem?_extract, Array.getElem?_extract, Array.size_setIfInBounds, Array.getElem?_setIfInBounds]
  split
  · rw [if_neg (by omega)]
  · rfl
theorem extract_set_in {C : Array Value} {b i : Nat} {v : Value} (h : i < b) : (C.setIfInBounds i v).extract 0 b = (C.extract 0 b).setIfInBounds i v := by
  apply Array.ext_getElem?
  intro j
  rw [Array.getElem?_extract, Array.size_setIfInBounds, Array.getElem?_setIfInBounds, Array.getElem?_setIfInBounds, Array.getElem?_extract, Array.size_extract]
  by_cases e : i = j
  · subst e
    simp only [Nat.zero_add, if_pos]
    by_cases hs : i < C.size
    · rw [if_pos (by omega), if_pos hs, if_pos (by omega)]
    · rw [if_neg (by omega), if_neg (by omega)]
  · simp [e]

/-- A session with another time. -/
theorem Ses.time {w : World} {c : Array Value} {F : List Int} {K : List (Int × Bool)} {gr : Bool} {t : Int} (h : Ses w c F K gr t) (t' : Int) (h1 : -9223372036854775808 ≤ t') (h2 : t' ≤ 9223372036854775807) : Ses w (c.setIfInBounds 8 (.int .i64 t')) F K gr t' := by
  have hs := h.size
  obtain ⟨fs, f1, f2⟩ := h.fams
  obtain ⟨ks, k1, k2⟩ := h.kept
  refine ⟨by simpa using h.size, ?_, ⟨fs, ?_, f2⟩, ?_, ?_, ⟨ks, ?_, k2⟩, h1, h2⟩
  · have ho := h.one
    rw [Array.all_eq_true_iff_forall_mem] at ho ⊢
    intro x hx
    rw [Array.mem_iff_getElem?] at hx
    obtain ⟨i, hi⟩ := hx
    rw [Array.getElem?_setIfInBounds] at hi
    split at hi
    · split at hi
      · cases hi; rfl
      · cases hi
    · exact ho x (Array.mem_of_getElem? hi)
  · rw [Array.getElem?_setIfInBounds, if_neg (by omega)]; exact f1
  · rw [Array.getElem?_setIfInBounds, if_neg (by omega)]; exact h.hasGR
  · rw [Array.getElem?_setIfInBounds, if_pos rfl, if_pos (by omega)]
  · rw [Array.getElem?_setIfInBounds, if_neg (by omega)]; exact k1
theorem paC_attr (p : Pl) (x : To) : ∀ j, j < 16 → (paC p x)[6 + j]? = (aC x.orig x.hm x.med).toList[j]? := by
  intro j hj
  match j, hj with
  | 0, _ => rfl
  | 1, _ => rfl
  | 2, _ => rfl
  | 3, _ => rfl
  | 4, _ => rfl
  | 5, _ => rfl
  | 6, _ => rfl
  | 7, _ => rfl
  | 8, _ => rfl
  | 9, _ => rfl
  | 10, _ => rfl
  | 11, _ => rfl
  | 12, _ => rfl
  | 13, _ => rfl
  | 14, _ => rfl
  | 15, _ => rfl
  | n + 16, hj => exact absurd hj (by omega)
theorem PaAt.attrs {w : World} {g o : Nat} {p : Pl} {x : To} (h : PaAt w g o p x) : w.rangeAt g (o + 6) (aC x.orig x.hm x.med).toList := fun j v hv => by
  have hj : j < 16 := by
    have := (List.getElem?_eq_some_iff.1 hv).1
    simpa [aC] using this
  rw [Nat.add_assoc, h (6 + j) (by omega), paC_attr p x j hj, hv]

/-- A load of a row in the midst of a block, in every world of a class. -/
theorem quiet_load_mid {P : Program} {C : World → Prop} {o : Oper} {a : Act} {K : Act → Prop} (ty : TypeId) (x : Operand) (ho : o.op = .load ty x) (b off : Nat) (hx : a.eval x = .pointer (some ⟨b, off, none⟩)) (cs : List Value) (d : TypeDesc)
    (hC : ∀ w, C w → w.rangeAt b off cs) (hu : P.underlying ty = some d) (hd : d.isRow = true) (hi : (P.info? ty).map (·.size) = some cs.length) (hk : K (a.put o.dst (.agg cs.toArray))) : o.quiet P a C K :=
  ⟨_, fun w hw => by
    unfold Oper.quietAt execOp
    simp only [ho, hx, Sem.run_bind, run_loadAt_mid w b off ty cs d (hC w hw) hu hd hi, Result.andThen_ok, Sem.run_pure]
    exact ⟨rfl, rfl⟩, hk⟩
theorem range_regrown {w : World} {b off : Nat} {cs : List Value} (h : w.rangeAt b off cs) (w' : World) (hw : ∃ p : Regrown, w' = grow (redrawn w p.d) p.os) : w'.rangeAt b off cs := by
  obtain ⟨p, rfl⟩ := hw
  exact fun j v hv => cell_regrown (h j v hv) _ _
end Go.Proofs.Ytcljkcgccahlcaa
