/- What waits by the document's answer: a slice that the law itself owns, cut ahead and appended to; the contract of heraldref14.Jitter. -/
import Derived.Test.YtohlppmalinooaaE
namespace Go.Proofs.Ytohlppmalinooaa
open Go.RowKit
set_option linter.unusedVariables false

/-- A slice that begins at ao, of capacity cap: it leads to a block of the law's own, from B on, not b, and holds the numbers q. -/
structure Waits (w : World) (B b : Nat) (ao : Option Addr) (cap : Nat) (q : List Int) : Prop where
  le : q.length ≤ cap
  max : cap ≤ maxLen
  at_ : (ao = none ∧ cap = 0) ∨ ∃ g off cur, ao = some ⟨g, off, none⟩ ∧ B ≤ g ∧ g ≠ b ∧ w.heap[g]? = some (.cells cur 22 (0, 0)) ∧ off + cap ≤ cur.size ∧ ∀ i (h : i < q.length), cur[off + i]? = some (.int .u32 q[i])

theorem Waits.nil (w : World) (B b : Nat) : Waits w B b none 0 [] := ⟨Nat.le_refl _, Nat.zero_le _, .inl ⟨rfl, rfl⟩⟩

theorem Waits.move {w w' : World} {B b b' : Nat} {ao : Option Addr} {cap : Nat} {q : List Int} (h : Waits w B b ao cap q) (hk : ∀ g, g ≠ b → g < w.heap.size → w'.heap[g]? = w.heap[g]?) (hb : b' = b ∨ w.heap.size ≤ b') :
    Waits w' B b' ao cap q := by
  refine ⟨h.le, h.max, ?_⟩
  rcases h.at_ with ⟨h1, h2⟩ | ⟨g, off, cur, rfl, h1, h2, h3, h4, h5⟩
  · exact .inl ⟨h1, h2⟩
  · have hg := lt_of_block h3
    exact .inr ⟨g, off, cur, rfl, h1, by omega, (hk g h2 hg).trans h3, h4, h5⟩

theorem Waits.tail {w : World} {B b g off cap : Nat} {x : Int} {q : List Int} (h : Waits w B b (some ⟨g, off, none⟩) cap (x :: q)) :
    Waits w B b (some ⟨g, off + 1, none⟩) (cap - 1) q := by
  have hle := h.le
  have hm := h.max
  simp only [List.length_cons] at hle
  rcases h.at_ with ⟨h1, h2⟩ | ⟨g', off', cur, h0, h1, h2, h3, h4, h5⟩
  · cases h1
  · cases h0
    refine ⟨by omega, by omega, .inr ⟨_, _, cur, rfl, h1, h2, h3, by omega, fun i hi => ?_⟩⟩
    have := h5 (i + 1) (by simp; omega)
    rw [show off + (i + 1) = off + 1 + i from by omega] at this
    rw [this]; simp
theorem Waits.tail1 {w : World} {B b g off : Nat} {x : Int} {q : List Int} (h : Waits w B b (some ⟨g, off, none⟩) 1 (x :: q)) :
    q = [] ∧ Waits w B b (some ⟨g, off, none⟩) 0 [] := by
  have hle := h.le
  simp only [List.length_cons] at hle
  have hq : q = [] := List.eq_nil_of_length_eq_zero (by omega)
  subst hq
  rcases h.at_ with ⟨h1, h2⟩ | ⟨g', off', cur, h0, h1, h2, h3, h4, h5⟩
  · cases h1
  · cases h0
    exact ⟨rfl, by simp, Nat.zero_le _, .inr ⟨_, _, cur, rfl, h1, h2, h3, by omega, fun i hi => by simp at hi⟩⟩

theorem Waits.form {w : World} {B b cap : Nat} {ao : Option Addr} {x : Int} {q : List Int} (h : Waits w B b ao cap (x :: q)) :
    ∃ g off, ao = some ⟨g, off, none⟩ ∧ w.cell? ⟨g, off, none⟩ = some (.int .u32 x) := by
  have hle := h.le
  simp only [List.length_cons] at hle
  rcases h.at_ with ⟨h1, h2⟩ | ⟨g, off, cur, rfl, h1, h2, h3, h4, h5⟩
  · omega
  · exact ⟨g, off, rfl, by rw [cell_of_row _ _ _ _ _ _ h3]; have := h5 0 (by simp); simpa using this⟩

theorem info22 : (Try.prog.info? 22).map (fun i => (i.zero, i.size, i.bytes)) = some (some (.int .u32 0), 1, 4) := by kernel_rfl

/-- waits = append(waits, u): in the room that is there, or in a new block. -/
theorem wpList_append_waits {w : World} {ops : Array Oper} {rest : List Oper} {o : Oper} {a : Act} {Q : Exit → Act → World → Prop} (hg : o.guard = none) (s x : Operand)
    (hop : o.op = Op.call { callee := Callee.builtin Builtin.append, args := #[s, x], argTypes := #[29, 29] })
    (B b : Nat) (ao : Option Addr) (cap : Nat) (q : List Int) (hs : a.eval s = .slice ao q.length cap) (hw : Waits w B b ao cap q) (hB : B ≤ w.heap.size) (hb : b < w.heap.size) (hq : q.length < 64)
    (u : Int) (ad : Addr) (c : Nat) (hx : a.eval x = .slice (some ad) 1 c) (hc : w.cell? ad = some (.int .u32 u)) (had : ad.spot = none)
    (h : ∀ ao' cap' w', Waits w' B b ao' cap' (q ++ [u]) → Below B w w' → w'.heap[b]? = w.heap[b]? → wpList Try.prog ops Q rest (a.put o.dst (.slice ao' (q ++ [u]).length cap')) w') :
    wpList Try.prog ops Q (o :: rest) a w := by
  obtain ⟨i0, hi, hz0, hz1, hz2⟩ := info_parts info22
  have hnews : ∀ j v, [Value.int .u32 u][j]? = some v → w.cell? (ad.add j) = some v := by
    intro j v hj
    rcases j with _ | j
    · simp at hj; subst hj
      rw [← hc]; congr 1
    · simp at hj
  have hle := hw.le
  have hmx := hw.max
  have holds : ∀ bb, ao = some bb → ∀ j v, (q.map (Value.int .u32))[j]? = some v → w.cell? (bb.add j) = some v := by
    intro bb hbb j v hj
    rcases hw.at_ with ⟨h1, h2⟩ | ⟨g, off, cur, h0, h1, h2, h3, h4, h5⟩
    · rw [h1] at hbb; cases hbb
    · rw [h0] at hbb; cases hbb
      rw [Addr.add_lit, cell_of_row _ _ _ _ _ _ h3]
      simp only [List.getElem?_map, Option.map_eq_some_iff] at hj
      obtain ⟨y, hy, rfl⟩ := hj
      obtain ⟨hj, rfl⟩ := List.getElem?_eq_some_iff.1 hy
      exact h5 j hj
  by_cases hroom : q.length + 1 ≤ cap
  · rcases hw.at_ with ⟨h1, h2⟩ | ⟨g, off, cur, rfl, h1, h2, h3, h4, h5⟩
    · omega
    · have hcell : ∀ j, w.cell? ⟨g, j, none⟩ = cur[j]? := fun j => cell_of_row _ _ _ _ _ _ h3
      refine wpList_append_arg w hg s x 29 hop 22 i0 (.int .u32 0) 1 4 Try.underlying29 hi hz0 hz1 hz2 rfl (by decide) g off q.length cap (q.map (Value.int .u32)) hs (by simp)
        (fun j v hj => by have := holds _ rfl j v hj; rwa [Addr.add_lit] at this) ad 1 c [.int .u32 u] hx rfl hnews (by simp [Value.oneCell']) ?_ (by unfold maxLen; omega) (by omega) ?_ ?_
      · intro _ j hj
        obtain rfl : j = 0 := by simpa using hj
        refine ⟨?_, frozen_of_row _ _ _ _ _ h3⟩
        rw [hcell, Array.getElem?_eq_getElem (by omega)]; rfl
      · intro _
        have e : (.slice (some ⟨g, off, none⟩) (q.length + 1) cap : Value) = .slice (some ⟨g, off, none⟩) (q ++ [u]).length cap := by simp
        rw [e]
        have hh : (w.setCells g (off + q.length * 1) [.int .u32 u]) = w.setCell ⟨g, off + q.length, none⟩ (.int .u32 u) := by simp [World.setCells]
        rw [hh]
        refine h _ _ _ ⟨by simp; omega, hmx, .inr ⟨g, off, _, rfl, h1, h2, set_heap h3, by simp; omega, ?_⟩⟩ ((Below.refl _ _).setCell h1 _) (heap_setCell_other _ _ _ _ (fun e => h2 e.symm))
        intro i hi
        simp at hi
        by_cases e : i = q.length
        · subst e
          rw [Array.getElem?_setIfInBounds_self_of_lt (by omega)]; simp
        · rw [Array.getElem?_setIfInBounds_ne (by omega), h5 i (by omega), List.getElem_append_left (by omega)]
      · intro hlt; omega
  · refine wpList_append_grows w hg s x 29 hop 22 i0 (.int .u32 0) 1 4 Try.underlying29 hi hz0 hz1 hz2 rfl (by decide) ao q.length cap (q.map (Value.int .u32)) hs ?_ (by simp) holds ad 1 c [.int .u32 u] hx rfl hnews (by simp [Value.oneCell']) (by omega) (by unfold maxLen; omega) (by omega) ?_
    · intro h0
      rcases hw.at_ with ⟨h1, h2⟩ | ⟨g, off, cur, h0', _⟩
      · omega
      · rw [h0] at h0'; cases h0'
    · intro v' w' hown hgr
      obtain ⟨hl, hv⟩ := hown
      rcases hv with ⟨_, h0⟩ | ⟨g, cap', cur, rfl, hg1, hg2, hg3, hg4, hg5, hg6⟩
      · omega
      · have e : (.slice (some ⟨g, 0, none⟩) (q.length + 1) cap' : Value) = .slice (some ⟨g, 0, none⟩) (q ++ [u]).length cap' := by simp
        rw [e]
        refine h _ _ _ ⟨by simp; omega, hg4, .inr ⟨g, 0, cur, rfl, by omega, by omega, hg2, by omega, ?_⟩⟩ ⟨hgr.os, hgr.tape, hgr.output, hgr.size, fun k hk => hgr.block k (by omega) (by simp)⟩ (hgr.block b hb (by simp))
        intro i hi
        have e2 : (q.map (Value.int .u32) ++ [Value.int .u32 u]) = (q ++ [u]).map (Value.int .u32) := by simp
        rw [e2] at hg6
        have e3 : (cur.toList.take ((q.length + 1) * 1))[i]? = ((q ++ [u]).map (Value.int .u32))[i]? := by rw [hg6]
        rw [List.getElem?_take_of_lt (by simp at hi; omega)] at e3
        rw [Nat.zero_add]
        simp only [Array.getElem?_toList] at e3
        rw [e3, List.getElem?_map, List.getElem?_eq_getElem hi]; rfl
end Go.Proofs.Ytohlppmalinooaa
