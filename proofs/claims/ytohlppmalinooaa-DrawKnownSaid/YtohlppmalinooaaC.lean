/- Contracts of the methods of draw.Draws, by the list of draws that wait. -/
import Derived.Test.YtohlppmalinooaaB
namespace Go.Proofs.Ytohlppmalinooaa
open Go.RowKit
set_option linter.unusedVariables false

theorem DrC.one {c : Array Value} {q : List Int} {f : Nat} (h : DrC c q f) : c.all (·.oneCell') = true := by
  rw [Array.all_eq_true]
  intro i hi
  rw [h.size] at hi
  have hg : c[i]? = some c[i] := Array.getElem?_eq_getElem (by rw [h.size]; exact hi)
  rcases Nat.lt_or_ge i 1 with h1 | h1
  · obtain rfl : i = 0 := by omega
    rw [h.there] at hg; injection hg with e; rw [← e]; rfl
  rcases Nat.lt_or_ge i 65 with h2 | h2
  · obtain ⟨x, hx⟩ := h.ring (i - 1) (by omega)
    rw [show 1 + (i - 1) = i from by omega, hg] at hx; injection hx with e; rw [e]; rfl
  rcases Nat.lt_or_ge i 66 with h3 | h3
  · obtain rfl : i = 65 := by omega
    rw [h.first] at hg; injection hg with e; rw [← e]; rfl
  · obtain rfl : i = 66 := by omega
    rw [h.n] at hg; injection hg with e; rw [← e]; rfl

theorem DrC.new : DrC (draw0 true) [] 0 := by
  refine ⟨by simp [draw0], by simp [draw0], by simp [draw0], by simp [draw0], by omega, by simp, ?_, by simp, by simp⟩
  intro j hj
  refine ⟨0, ?_⟩
  simp only [draw0, List.getElem?_toArray]
  rw [show 1 + j = j + 1 from by omega, List.getElem?_cons_succ, List.getElem?_append_left (by simpa using hj), List.getElem?_replicate]
  simp [hj]

theorem DrC.push {c : Array Value} {q : List Int} {f : Nat} (h : DrC c q f) (hr : q.length < 64) (x : Int) (x1 : 0 ≤ x) (x2 : x < 4294967296) :
    DrC ((c.setIfInBounds (1 + (f + q.length) % 64) (.int .u32 x)).setIfInBounds 66 (.int .i64 (q.length + 1))) (q ++ [x]) f := by
  have hsz := h.size
  have hfl := h.flt
  refine ⟨by simp [hsz], ?_, ?_, ?_, h.flt, by simp; omega, ?_, ?_, ?_⟩
  · rw [Array.getElem?_setIfInBounds_ne (by omega), Array.getElem?_setIfInBounds_ne (by omega)]; exact h.there
  · rw [Array.getElem?_setIfInBounds_ne (by omega), Array.getElem?_setIfInBounds_ne (by omega)]; exact h.first
  · rw [Array.getElem?_setIfInBounds_self_of_lt (by simp [hsz])]; simp
  · intro j hj
    rw [Array.getElem?_setIfInBounds_ne (by omega)]
    by_cases e : (f + q.length) % 64 = j
    · subst e
      exact ⟨x, by rw [Array.getElem?_setIfInBounds_self_of_lt (by omega)]⟩
    · obtain ⟨y, hy⟩ := h.ring j hj
      exact ⟨y, by rw [Array.getElem?_setIfInBounds_ne (by omega)]; exact hy⟩
  · intro i hi
    simp at hi
    rw [Array.getElem?_setIfInBounds_ne (by omega)]
    by_cases e : i = q.length
    · subst e
      rw [Array.getElem?_setIfInBounds_self_of_lt (by omega)]; simp
    · rw [Array.getElem?_setIfInBounds_ne (by omega), h.at_ i (by omega), List.getElem_append_left (by omega)]
  · intro y hy
    simp at hy
    rcases hy with hy | rfl
    · exact h.bd y hy
    · exact ⟨x1, x2⟩

theorem DrC.pop {c : Array Value} {x : Int} {q : List Int} {f : Nat} (h : DrC c (x :: q) f) :
    DrC ((c.setIfInBounds 65 (.int .i64 (((f + 1) % 64 : Nat) : Int))).setIfInBounds 66 (.int .i64 q.length)) q ((f + 1) % 64) := by
  have hsz := h.size
  have hfl := h.flt
  have hro := h.room
  simp at hro
  refine ⟨by simp [hsz], ?_, ?_, ?_, by omega, by omega, ?_, ?_, ?_⟩
  · rw [Array.getElem?_setIfInBounds_ne (by omega), Array.getElem?_setIfInBounds_ne (by omega)]; exact h.there
  · rw [Array.getElem?_setIfInBounds_ne (by omega), Array.getElem?_setIfInBounds_self_of_lt (by omega)]
  · rw [Array.getElem?_setIfInBounds_self_of_lt (by simp [hsz])]
  · intro j hj
    obtain ⟨y, hy⟩ := h.ring j hj
    exact ⟨y, by rw [Array.getElem?_setIfInBounds_ne (by omega), Array.getElem?_setIfInBounds_ne (by omega)]; exact hy⟩
  · intro i hi
    rw [Array.getElem?_setIfInBounds_ne (by omega), Array.getElem?_setIfInBounds_ne (by omega)]
    have := h.at_ (i + 1) (by simp; omega)
    rw [List.getElem_cons_succ] at this
    rw [← this]
    congr 1
    omega
  · intro y hy
    exact h.bd y (by simp [hy])

theorem set_heap {w : World} {b i : Nat} {c : Array Value} {t : TypeId} {v : Value} (h : w.heap[b]? = some (.cells c t (0, 0))) :
    (w.setCell ⟨b, i, none⟩ v).heap[b]? = some (.cells (c.setIfInBounds i v) t (0, 0)) := by
  rw [heap_setCell_same w b i c t v h]

theorem isD_new (w : World) : IsD (w.alloc (.cells (draw0 true) 42)) w.heap.size [] := ⟨_, 0, heap_alloc_new _ _, DrC.new⟩

/-- A set of draws that lie in a block that has not turned. -/
theorem IsD.keep {w w' : World} {b : Nat} {q : List Int} (h : IsD w b q) (hb : w'.heap[b]? = w.heap[b]?) : IsD w' b q := by
  obtain ⟨c, f, h1, h2⟩ := h
  exact ⟨c, f, hb.trans h1, h2⟩

theorem left_any (b : Nat) (q : List Int) (w : World) (h : IsD w b q) :
    Calls Try.prog 16 #[.pointer (some ⟨b, 0, none⟩)] w fun e w' => e = .returned (.int .i64 q.length) ∧ w = w' := by
  obtain ⟨c, f, h1, h2⟩ := h
  exact left_core b _ w (by rw [cell_of _ _ _ _ _ h1]; exact h2.there) (by rw [cell_of _ _ _ _ _ h1]; exact h2.n)

theorem push_any (b : Nat) (q : List Int) (x : Int) (x1 : 0 ≤ x) (x2 : x < 4294967296) (w : World) (h : IsD w b q) (hq : q.length < 64) :
    Calls Try.prog 12 #[.pointer (some ⟨b, 0, none⟩), .int .u32 x] w fun e w' => e = .returned (.int .i64 0) ∧ IsD w' b (q ++ [x]) ∧ Only b w w' := by
  obtain ⟨c, f, h1, h2⟩ := h
  have hfl := h2.flt
  obtain ⟨y, hy⟩ := h2.ring ((f + q.length) % 64) (by omega)
  refine (push_core b x f q.length _ w (by rw [cell_of _ _ _ _ _ h1]; exact h2.there) (by rw [cell_of _ _ _ _ _ h1]; exact h2.n) (by rw [cell_of _ _ _ _ _ h1]; exact h2.first) hq h2.flt
    (by rw [cell_of _ _ _ _ _ h1]; exact hy) (fun i => frozen_of_row _ _ _ _ _ h1)).mono ?_
  rintro e w' ⟨rfl, rfl⟩
  refine ⟨rfl, ⟨_, f, ?_, h2.push hq x x1 x2⟩, (((Only.refl _ _).setCell _ _).setCell _ _).drew⟩
  rw [heap_drew]
  exact set_heap (set_heap h1)

theorem push_any_full (b : Nat) (q : List Int) (x : Int) (w : World) (h : IsD w b q) (hq : 64 ≤ q.length) :
    Calls Try.prog 12 #[.pointer (some ⟨b, 0, none⟩), .int .u32 x] w fun e w' => e = .returned (.int .i64 7) ∧ w = w' := by
  obtain ⟨c, f, h1, h2⟩ := h
  have := h2.room
  exact push_full b x w (by rw [cell_of _ _ _ _ _ h1]; exact h2.there) (by rw [cell_of _ _ _ _ _ h1, h2.n]; rw [show q.length = 64 from by omega]; rfl)

theorem copy_any (b : Nat) (q : List Int) (w : World) (h : IsD w b q) :
    Calls Try.prog 15 #[.pointer (some ⟨b, 0, none⟩)] w fun e w' => e = .returned (.pointer (some ⟨w.heap.size, 0, none⟩)) ∧ ∃ c, w.alloc (.cells c 42) = w' ∧ IsD w' w.heap.size q := by
  obtain ⟨c, f, h1, h2⟩ := h
  refine (copy_core b c w h1 (by rw [cell_of _ _ _ _ _ h1]; exact h2.there) h2.size h2.one).mono ?_
  rintro e w' ⟨rfl, rfl⟩
  exact ⟨rfl, c, rfl, c, f, heap_alloc_new _ _, h2⟩

theorem jitter_any_nil (b : Nat) (base : Int) (hb : 0 < base) (w : World) (h : IsD w b []) :
    Calls Try.prog 14 #[.pointer (some ⟨b, 0, none⟩), .int .i64 base] w fun e w' => e = .returned (.int .i64 base) ∧ w = w' := by
  obtain ⟨c, f, h1, h2⟩ := h
  exact jitter_nil b base hb w (by rw [cell_of _ _ _ _ _ h1]; exact h2.there) (by rw [cell_of _ _ _ _ _ h1]; exact h2.n)

theorem jitter_any (b : Nat) (base : Int) (hb : 0 < base) (hb2 : base < 9223372036854775808) (x : Int) (q : List Int) (w : World) (h : IsD w b (x :: q)) :
    Calls Try.prog 14 #[.pointer (some ⟨b, 0, none⟩), .int .i64 base] w fun e w' => e = .returned (.int .i64 (ofV base x)) ∧ IsD w' b q ∧ Only b w w' := by
  obtain ⟨c, f, h1, h2⟩ := h
  have hro := h2.room
  simp at hro
  have hx := h2.at_ 0 (by simp)
  have hfl := h2.flt
  rw [show (f + 0) % 64 = f from by omega] at hx
  obtain ⟨x1, x2⟩ := h2.bd x (by simp)
  refine (jitter_core b base hb f (q.length + 1) x w (by rw [cell_of _ _ _ _ _ h1]; exact h2.there) (by rw [cell_of _ _ _ _ _ h1]; exact h2.n) (by rw [cell_of _ _ _ _ _ h1]; exact h2.first) (by omega) (by omega)
    (by simp; omega) h2.flt (by rw [cell_of _ _ _ _ _ h1]; exact hx) (fun i => frozen_of_row _ _ _ _ _ h1) hb2 x1 x2).mono ?_
  rintro e w' ⟨rfl, rfl⟩
  refine ⟨rfl, ⟨_, _, ?_, h2.pop⟩, (((Only.refl _ _).setCell _ _).setCell _ _).drew⟩
  rw [heap_drew]
  have := set_heap (i := 66) (v := .int .i64 q.length) (set_heap (i := 65) (v := .int .i64 (((f + 1) % 64 : Nat) : Int)) h1)
  rw [← this]
  congr 5
  simp
end Go.Proofs.Ytohlppmalinooaa
