/- What is told, as a row of 18 cells; the world inside Put. -/
import Derived.Test.YtcljkcgccahlcaaTN
import Derived.Test.YtcljkcgccahlcaaTJ
import Derived.Test.YtcljkcgccahlcaaTG
import Derived.Deep.MidRow
namespace Go.Proofs.Ytcljkcgccahlcaa
open Go.RowKit
set_option linter.unusedVariables false

/-- A world inside Put: the two boxes stand. -/
structure PW (w : World) (p : Pl) (label : Int) (A : Array Value) (w' : World) : Prop where
  bel : Below w.heap.size w w'
  big : w.heap.size + 2 ≤ w'.heap.size
  blk4 : w'.heap[w.heap.size]? = some (.cells (nlC p label) 41 (0, 0))
  blk5 : w'.heap[w.heap.size + 1]? = some (.cells A 47 (0, 0))
theorem pw_start (w : World) (p : Pl) (label : Int) (A : Array Value) : PW w p label A ((w.alloc (.cells (nlC p label) 41)).alloc (.cells A 47)) :=
  ⟨((Below.refl _ _).alloc (Nat.le_refl _) _).alloc (by simp) _, by simp, by rw [Below.heap_alloc _ _ _ (by simp)]; exact heap_alloc_new _ _, heap_alloc2_new _ _ _⟩
theorem PW.next {w w' w'' : World} {p : Pl} {label : Int} {A : Array Value} (h : PW w p label A w') (hb : Below w'.heap.size w' w'') : PW w p label A w'' :=
  ⟨h.bel.trans (hb.mono (by have := h.big; omega)), Nat.le_trans h.big hb.size, (hb.block _ (by have := h.big; omega)).trans h.blk4, (hb.block _ (by have := h.big; omega)).trans h.blk5⟩
theorem PW.c4 {w w' : World} {p : Pl} {label : Int} {A : Array Value} (h : PW w p label A w') : w'.cell? ⟨w.heap.size, 0, none⟩ = some (.int .i64 p.fam) ∧ w'.cell? ⟨w.heap.size, 1, none⟩ = some (.int .u64 p.rd) ∧ w'.cell? ⟨w.heap.size, 2, none⟩ = some (.string p.addr) ∧
    w'.cell? ⟨w.heap.size, 3, none⟩ = some (.int .i64 p.len) ∧ w'.cell? ⟨w.heap.size, 4, none⟩ = some (.int .u32 p.id) ∧ w'.cell? ⟨w.heap.size, 5, none⟩ = some (.int .u32 label) :=
  ⟨cell_of_row _ _ _ _ _ _ h.blk4, cell_of_row _ _ _ _ _ _ h.blk4, cell_of_row _ _ _ _ _ _ h.blk4, cell_of_row _ _ _ _ _ _ h.blk4, cell_of_row _ _ _ _ _ _ h.blk4, cell_of_row _ _ _ _ _ _ h.blk4⟩

def To.list (x : To) : List Value := x.cells.toList
theorem To.cells_list (x : To) : x.cells = x.list.toArray := by simp [To.list]
theorem to_len (x : To) : x.list.length = 18 := rfl
theorem to_ones (x : To) : ∀ v ∈ x.list, v.oneCell' = true := by
  intro v hv
  have := to_one x
  rw [Array.all_eq_true_iff_forall_mem] at this
  exact this v (by simpa [To.list] using hv)
theorem size85 (x : To) : (Try.prog.info? 85).map (·.size) = some x.list.length := by rw [to_len]; exact sizeTo
theorem there_new (w : World) (x : To) : (w.alloc (.cells x.cells 85)).there w.heap.size 0 18 := by
  intro j hj
  have hb := heap_alloc_new w (.cells x.cells 85)
  refine ⟨?_, frozen_of_row _ _ _ _ _ hb⟩
  rw [cell_of_row _ _ _ _ _ _ hb, Nat.zero_add]
  have : j < x.cells.size := by simpa [To.cells] using hj
  simp [this]
theorem run_store_there {P : Program} (w : World) (b o : Nat) (vs : List Value) (ht : w.there b o vs.length) (h1 : ∀ v ∈ vs, v.oneCell' = true) : (storeCells ⟨b, o, none⟩ vs).run P w = .ok () (w.setCells b o vs) := by
  have := run_storeCells_cells (P := P) b o vs 0 w (fun j hj => by simpa using (ht j hj).1) (fun j hj => by simpa using (ht j hj).2) h1
  simpa only [Nat.add_zero] using this
theorem below_setCells {B g : Nat} {w : World} : ∀ {vs : List Value} {o : Nat} {W : World} (h : Below B w W) (hg : B ≤ g), Below B w (W.setCells g o vs)
  | [], _, _, h, _ => h
  | v :: r, o, W, h, hg => below_setCells (vs := r) (h.setCell (p := ⟨g, o, none⟩) hg v) hg
theorem putS {W : World} {b m g8 : Nat} {p : Pl} (h1 : W.cell? ⟨b, 1, none⟩ = some (.map (some m))) (h8 : W.heap[g8]? = some (.cells #[.int .i64 p.fam, .int .u64 p.rd, .string p.addr, .int .i64 p.len, .int .u32 p.id] 83 (0, 0))) (hb : b < W.heap.size) (hg : g8 < W.heap.size) {w' : World} (h : Below W.heap.size W w') :
    w'.cell? ⟨b, 1, none⟩ = some (.map (some m)) ∧ w'.cell? ⟨g8, 0, none⟩ = some (.int .i64 p.fam) ∧ w'.cell? ⟨g8, 1, none⟩ = some (.int .u64 p.rd) ∧ w'.cell? ⟨g8, 2, none⟩ = some (.string p.addr) ∧ w'.cell? ⟨g8, 3, none⟩ = some (.int .i64 p.len) ∧ w'.cell? ⟨g8, 4, none⟩ = some (.int .u32 p.id) := by
  have hk := (h.block g8 hg).trans h8
  exact ⟨by rw [h.cell hb]; exact h1, cell_of_row _ _ _ _ _ _ hk, cell_of_row _ _ _ _ _ _ hk, cell_of_row _ _ _ _ _ _ hk, cell_of_row _ _ _ _ _ _ hk, cell_of_row _ _ _ _ _ _ hk⟩

theorem rangeAt_set {w : World} {b : Nat} {vs : List Value} (h : w.rangeAt b 0 vs) {j : Nat} {u : Value} (hj : vs[j]? = some u) (v : Value) : (w.setCell ⟨b, j, none⟩ v).rangeAt b 0 (vs.set j v) := by
  intro i x hi
  rw [Nat.zero_add]
  by_cases e : i = j
  · subst e
    have hlt : i < vs.length := (List.getElem?_eq_some_iff.1 hj).1
    have hc := h i u hj
    rw [Nat.zero_add] at hc
    rw [World.cell?_setCell_same _ _ _ hc]
    rw [List.getElem?_set_self hlt] at hi
    exact hi
  · rw [List.getElem?_set_ne (Ne.symm e)] at hi
    have hc := h i x hi
    rw [Nat.zero_add] at hc
    rw [World.cell?_setCell_other _ _ _ _ (by intro e2; injection e2 with e3 e4; exact e e4.symm)]
    exact hc
theorem rangeAt_below {B : Nat} {w w' : World} {b o : Nat} {vs : List Value} (h : w.rangeAt b o vs) (hb : Below B w w') (hB : b < B) : w'.rangeAt b o vs := fun j v hv => by
  rw [hb.cell (p := ⟨b, o + j, none⟩) hB]; exact h j v hv
theorem rangeAt_row {w : World} {g : Nat} {C : Array Value} {t : TypeId} {fr : Nat × Nat} (h : w.heap[g]? = some (.cells C t fr)) : w.rangeAt g 0 C.toList := fun j v hv => by
  rw [cell_of_row _ _ _ _ _ _ h, Nat.zero_add]; simpa using hv
theorem cellsA_of_row {w : World} {g : Nat} {o m : Int} {hm : Bool} (h : w.heap[g]? = some (.cells (aC o hm m) 47 (0, 0))) :
    w.cell? ⟨g, 0, none⟩ = some (.int .i64 o) ∧ w.cell? ⟨g, 1, none⟩ = some (.slice none 0 0) ∧ w.cell? ⟨g, 2, none⟩ = some (.string ⟨#[]⟩) ∧ w.cell? ⟨g, 3, none⟩ = some (.bool hm) ∧ w.cell? ⟨g, 4, none⟩ = some (.int .u32 m) ∧ w.cell? ⟨g, 5, none⟩ = some (.bool false) ∧ w.cell? ⟨g, 6, none⟩ = some (.int .u32 0) ∧ w.cell? ⟨g, 7, none⟩ = some (.bool false) ∧ w.cell? ⟨g, 8, none⟩ = some (.int .u32 0) ∧ w.cell? ⟨g, 9, none⟩ = some (.int .u32 0) ∧ w.cell? ⟨g, 10, none⟩ = some (.slice none 0 0) ∧ w.cell? ⟨g, 11, none⟩ = some (.slice none 0 0) ∧ w.cell? ⟨g, 12, none⟩ = some (.slice none 0 0) ∧ w.cell? ⟨g, 13, none⟩ = some (.bool false) ∧ w.cell? ⟨g, 14, none⟩ = some (.int .u32 0) ∧ w.cell? ⟨g, 15, none⟩ = some (.slice none 0 0) :=
  ⟨cell_of_row _ _ _ _ _ _ h, cell_of_row _ _ _ _ _ _ h, cell_of_row _ _ _ _ _ _ h, cell_of_row _ _ _ _ _ _ h, cell_of_row _ _ _ _ _ _ h, cell_of_row _ _ _ _ _ _ h, cell_of_row _ _ _ _ _ _ h, cell_of_row _ _ _ _ _ _ h, cell_of_row _ _ _ _ _ _ h, cell_of_row _ _ _ _ _ _ h, cell_of_row _ _ _ _ _ _ h, cell_of_row _ _ _ _ _ _ h, cell_of_row _ _ _ _ _ _ h, cell_of_row _ _ _ _ _ _ h, cell_of_row _ _ _ _ _ _ h, cell_of_row _ _ _ _ _ _ h⟩
theorem cellsT_of_range {w : World} {g : Nat} {x : To} (h : w.rangeAt g 0 x.list) :
    w.cell? ⟨g, 0, none⟩ = some (.int .u32 x.label) ∧ w.cell? ⟨g, 1, none⟩ = some (.int .i64 x.orig) ∧ w.cell? ⟨g, 2, none⟩ = some (.slice none 0 0) ∧ w.cell? ⟨g, 3, none⟩ = some (.string ⟨#[]⟩) ∧ w.cell? ⟨g, 4, none⟩ = some (.bool x.hm) ∧ w.cell? ⟨g, 5, none⟩ = some (.int .u32 x.med) ∧ w.cell? ⟨g, 6, none⟩ = some (.bool false) ∧ w.cell? ⟨g, 7, none⟩ = some (.int .u32 0) ∧ w.cell? ⟨g, 8, none⟩ = some (.bool false) ∧ w.cell? ⟨g, 9, none⟩ = some (.int .u32 0) ∧ w.cell? ⟨g, 10, none⟩ = some (.int .u32 0) ∧ w.cell? ⟨g, 11, none⟩ = some (.slice none 0 0) ∧ w.cell? ⟨g, 12, none⟩ = some (.slice none 0 0) ∧ w.cell? ⟨g, 13, none⟩ = some (.slice none 0 0) ∧ w.cell? ⟨g, 14, none⟩ = some (.bool false) ∧ w.cell? ⟨g, 15, none⟩ = some (.int .u32 0) ∧ w.cell? ⟨g, 16, none⟩ = some (.slice none 0 0) ∧ w.cell? ⟨g, 17, none⟩ = some (.bool x.stale) := by
  have h' : ∀ j v, x.list[j]? = some v → w.cell? ⟨g, j, none⟩ = some v := fun j v hv => by have := h j v hv; rwa [Nat.zero_add] at this
  exact ⟨h' 0 _ rfl, h' 1 _ rfl, h' 2 _ rfl, h' 3 _ rfl, h' 4 _ rfl, h' 5 _ rfl, h' 6 _ rfl, h' 7 _ rfl, h' 8 _ rfl, h' 9 _ rfl, h' 10 _ rfl, h' 11 _ rfl, h' 12 _ rfl, h' 13 _ rfl, h' 14 _ rfl, h' 15 _ rfl, h' 16 _ rfl, h' 17 _ rfl⟩
end Go.Proofs.Ytcljkcgccahlcaa
