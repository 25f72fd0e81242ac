/- adjin.path; (*Rib).All. -/
import Derived.Test.YtcljkcgccahlcaaTR
namespace Go.Proofs.Ytcljkcgccahlcaa
open Go.RowKit
set_option linter.unusedVariables false

/-- A path's cells. -/
def paC (p : Pl) (x : To) : Array Value := #[.int .i64 p.fam, .int .u64 p.rd, .string p.addr, .int .i64 p.len, .int .u32 p.id, .int .u32 x.label, .int .i64 x.orig, .slice none 0 0, .string ⟨#[]⟩, .bool x.hm, .int .u32 x.med, .bool false, .int .u32 0, .bool false, .int .u32 0, .int .u32 0, .slice none 0 0, .slice none 0 0, .slice none 0 0, .bool false, .int .u32 0, .slice none 0 0, .int .i64 0, .string ⟨#[]⟩, .int .u32 0, .int .u32 0, .string ⟨#[]⟩, .string ⟨#[]⟩, .bool x.stale]
theorem zeroPa (w : World) : (zeroValue 68).run Try.prog w = .ok (.agg (paC ⟨0, 0, ⟨#[]⟩, 0, 0⟩ To.zero)) w := by kernel_rfl
theorem sizePa : (Try.prog.info? 68).map (·.size) = some 29 := by kernel_rfl
theorem paC_one (p : Pl) (x : To) : (paC p x).all (·.oneCell') = true := by simp [paC, Value.oneCell']
theorem paC_ne (p : Pl) (x : To) : (paC p x = #[]) = False := by simp [paC]
def paL (p : Pl) (x : To) : List Value := (paC p x).toList
theorem paC_list (p : Pl) (x : To) : paC p x = (paL p x).toArray := by simp [paL]
theorem pa_there (w : World) (p : Pl) (x : To) : (w.alloc (.cells (paC p x) 68)).there w.heap.size 0 29 := by
  intro j hj
  have hb := heap_alloc_new w (.cells (paC p x) 68)
  refine ⟨?_, frozen_of_row _ _ _ _ _ hb⟩
  rw [cell_of_row _ _ _ _ _ _ hb, Nat.zero_add]
  have : j < (paC p x).size := by simpa [paC] using hj
  simp [this]

/-- A path's cells ahead of its last. -/
def paM (p : Pl) (x : To) : List Value := (paL p x).set 28 (.bool false)
theorem paM_set (p : Pl) (x : To) : (paM p x).set 28 (.bool x.stale) = paL p x := rfl
theorem fold_pa (p : Pl) (x : To) : Array.foldl (fun (cs : Array Value) (y : Value × Nat) => cs.setIfInBounds (6 + y.snd) y.fst) #[.int .i64 p.fam, .int .u64 p.rd, .string p.addr, .int .i64 p.len, .int .u32 p.id, .int .u32 x.label, .int .i64 0, .slice none 0 0, .string ⟨#[]⟩, .bool false, .int .u32 0, .bool false, .int .u32 0, .bool false, .int .u32 0, .int .u32 0, .slice none 0 0, .slice none 0 0, .slice none 0 0, .bool false, .int .u32 0, .slice none 0 0, .int .i64 0, .string ⟨#[]⟩, .int .u32 0, .int .u32 0, .string ⟨#[]⟩, .string ⟨#[]⟩, .bool false] ((aC x.orig x.hm x.med).zipIdx 0) 0 16 = (paM p x).toArray := by kernel_rfl
theorem paM_len (p : Pl) (x : To) : (paM p x).length = 29 := rfl
theorem pa_len (p : Pl) (x : To) : (paL p x).length = 29 := rfl
theorem pa_ones (p : Pl) (x : To) : ∀ v ∈ paL p x, v.oneCell' = true := by
  intro v hv
  have := paC_one p x
  rw [Array.all_eq_true_iff_forall_mem] at this
  exact this v (by simpa [paL] using hv)
theorem pa_size (p : Pl) (x : To) : (Try.prog.info? 68).map (·.size) = some (paL p x).length := sizePa

theorem setCells_keeps {g : Nat} {t : TypeId} {fr : Nat × Nat} : ∀ (vs : List Value) (o : Nat) (w : World) (C : Array Value), w.heap[g]? = some (.cells C t fr) → ∃ C' : Array Value, (w.setCells g o vs).heap[g]? = some (.cells C' t fr) ∧ C'.size = C.size
  | [], _, w, C, h => ⟨C, h, rfl⟩
  | v :: r, o, w, C, h => by
    obtain ⟨C', h1, h2⟩ := setCells_keeps r (o + 1) (w.setCell ⟨g, o, none⟩ v) _ (Lib.heap_setCell_same h v)
    exact ⟨C', h1, by rw [h2]; simp⟩
theorem setCells_whole {g : Nat} {t : TypeId} {fr : Nat × Nat} {w : World} {C : Array Value} {vs : List Value} (h : w.heap[g]? = some (.cells C t fr)) (hs : C.size = vs.length) (ht : w.there g 0 vs.length) : (w.setCells g 0 vs).heap[g]? = some (.cells vs.toArray t fr) := by
  obtain ⟨C', h1, h2⟩ := setCells_keeps vs 0 w C h
  rw [h1]
  congr 2
  apply Array.ext_getElem?
  intro j
  by_cases hj : j < vs.length
  · have := World.rangeAt_setCells_same w g 0 vs ht j _ (List.getElem?_eq_getElem hj)
    rw [cell_of_row _ _ _ _ _ _ h1, Nat.zero_add] at this
    rw [this]; simp [hj]
  · rw [Array.getElem?_eq_none (by omega)]; simp; omega

set_option maxRecDepth 100000 in
set_option maxHeartbeats 4000000 in
theorem path_any (p : Pl) (x : To) (w : World) : Calls Try.prog 44 #[.agg p.val, .agg x.cells] w fun e w' => e = .returned (.agg (paC p x)) ∧ Below w.heap.size w w' := by
  have z := fun w => zeroPa w
  have z1 := paC_ne ⟨0, 0, ⟨#[]⟩, 0, 0⟩ To.zero
  have hcp : ∀ w, Calls Try.prog 27 #[.agg #[.int .i64 x.orig, .slice none 0 0, .string ⟨#[]⟩, .bool x.hm, .int .u32 x.med, .bool false, .int .u32 0, .bool false, .int .u32 0, .int .u32 0, .slice none 0 0, .slice none 0 0, .slice none 0 0, .bool false, .int .u32 0, .slice none 0 0]] w fun e w' => e = .returned (.agg (aC x.orig x.hm x.med)) ∧ Below w.heap.size w w' := acopy_any x.orig x.hm x.med
  unfold Pl.val To.cells
  go_enter Try.func44, Try.ntmps44
  go_wp2_with fail
  have hb0 : ((w.alloc (.cells p.val 83)).alloc (.cells x.cells 85)).heap[w.heap.size]? = some (.cells p.val 83 (0, 0)) := by rw [Below.heap_alloc _ _ _ (by simp)]; exact heap_alloc_new _ _
  have hb1 : ((w.alloc (.cells p.val 83)).alloc (.cells x.cells 85)).heap[w.heap.size + 1]? = some (.cells x.cells 85 (0, 0)) := heap_alloc2_new _ _ _
  have hbel2 : Below w.heap.size w ((w.alloc (.cells p.val 83)).alloc (.cells x.cells 85)) := ((Below.refl _ _).alloc (Nat.le_refl _) _).alloc (by simp) _
  have hsz2 : ((w.alloc (.cells p.val 83)).alloc (.cells x.cells 85)).heap.size = w.heap.size + 1 + 1 := by simp
  simp only [Pl.val, To.cells] at hb0 hb1 hbel2 hsz2
  generalize (w.alloc (Obj.cells #[.int .i64 p.fam, .int .u64 p.rd, .string p.addr, .int .i64 p.len, .int .u32 p.id] 83)).alloc (Obj.cells #[.int .u32 x.label, .int .i64 x.orig, .slice none 0 0, .string ⟨#[]⟩, .bool x.hm, .int .u32 x.med, .bool false, .int .u32 0, .bool false, .int .u32 0, .int .u32 0, .slice none 0 0, .slice none 0 0, .slice none 0 0, .bool false, .int .u32 0, .slice none 0 0, .bool x.stale] 85) = W2 at *
  have hkeep : Hid (∀ w', Below W2.heap.size W2 w' → w'.cell? ⟨w.heap.size, 0, none⟩ = some (.int .i64 p.fam) ∧ w'.cell? ⟨w.heap.size, 1, none⟩ = some (.int .u64 p.rd) ∧ w'.cell? ⟨w.heap.size, 2, none⟩ = some (.string p.addr) ∧ w'.cell? ⟨w.heap.size, 3, none⟩ = some (.int .i64 p.len) ∧ w'.cell? ⟨w.heap.size, 4, none⟩ = some (.int .u32 p.id) ∧ w'.cell? ⟨w.heap.size + 1, 0, none⟩ = some (.int .u32 x.label) ∧ w'.cell? ⟨w.heap.size + 1, 1, none⟩ = some (.int .i64 x.orig) ∧ w'.cell? ⟨w.heap.size + 1, 2, none⟩ = some (.slice none 0 0) ∧ w'.cell? ⟨w.heap.size + 1, 3, none⟩ = some (.string ⟨#[]⟩) ∧ w'.cell? ⟨w.heap.size + 1, 4, none⟩ = some (.bool x.hm) ∧ w'.cell? ⟨w.heap.size + 1, 5, none⟩ = some (.int .u32 x.med) ∧ w'.cell? ⟨w.heap.size + 1, 6, none⟩ = some (.bool false) ∧ w'.cell? ⟨w.heap.size + 1, 7, none⟩ = some (.int .u32 0) ∧ w'.cell? ⟨w.heap.size + 1, 8, none⟩ = some (.bool false) ∧ w'.cell? ⟨w.heap.size + 1, 9, none⟩ = some (.int .u32 0) ∧ w'.cell? ⟨w.heap.size + 1, 10, none⟩ = some (.int .u32 0) ∧ w'.cell? ⟨w.heap.size + 1, 11, none⟩ = some (.slice none 0 0) ∧ w'.cell? ⟨w.heap.size + 1, 12, none⟩ = some (.slice none 0 0) ∧ w'.cell? ⟨w.heap.size + 1, 13, none⟩ = some (.slice none 0 0) ∧ w'.cell? ⟨w.heap.size + 1, 14, none⟩ = some (.bool false) ∧ w'.cell? ⟨w.heap.size + 1, 15, none⟩ = some (.int .u32 0) ∧ w'.cell? ⟨w.heap.size + 1, 16, none⟩ = some (.slice none 0 0) ∧ w'.cell? ⟨w.heap.size + 1, 17, none⟩ = some (.bool x.stale)) := by
    intro w' hb
    have k0 := (hb.block w.heap.size (by omega)).trans hb0
    have k1 := (hb.block (w.heap.size + 1) (by omega)).trans hb1
    exact ⟨cell_of_row _ _ _ _ _ _ k0, cell_of_row _ _ _ _ _ _ k0, cell_of_row _ _ _ _ _ _ k0, cell_of_row _ _ _ _ _ _ k0, cell_of_row _ _ _ _ _ _ k0, cellsT_of_range (x := x) (rangeAt_row k1)⟩
  have hth := pa_there W2 ⟨0, 0, ⟨#[]⟩, 0, 0⟩ To.zero
  have hA : Below W2.heap.size W2 (W2.alloc (.cells (paC ⟨0, 0, ⟨#[]⟩, 0, 0⟩ To.zero) 68)) := (Below.refl _ _).alloc (Nat.le_refl _) _
  have hsA : (W2.alloc (.cells (paC ⟨0, 0, ⟨#[]⟩, 0, 0⟩ To.zero) 68)).heap.size = w.heap.size + 1 + 1 + 1 := by simp [hsz2]
  have hblkA := heap_alloc_new W2 (.cells (paC ⟨0, 0, ⟨#[]⟩, 0, 0⟩ To.zero) 68)
  rw [hsz2] at hth hblkA
  generalize W2.alloc (Obj.cells (paC ⟨0, 0, ⟨#[]⟩, 0, 0⟩ To.zero) 68) = W3 at *
  have hcast : Hid (∀ w7, Below W3.drew.heap.size W3.drew w7 → Below W3.heap.size W3 w7) := fun w7 h => ⟨h.os, h.tape, h.output, h.size, h.block⟩
  have hth7 : Hid (∀ w7, Below W3.heap.size W3 w7 → w7.there (w.heap.size + 1 + 1) 0 29) := fun w7 h j hj => by
    obtain ⟨h1, h2⟩ := hth j hj
    exact ⟨by rw [h.cell (p := ⟨w.heap.size + 1 + 1, 0 + j, none⟩) (by show w.heap.size + 1 + 1 < _; omega)]; exact h1, by rw [h.frozen (p := ⟨w.heap.size + 1 + 1, 0 + j, none⟩) (by show w.heap.size + 1 + 1 < _; omega)]; exact h2⟩
  have hL1 := paM_len p x
  have hL2 := pa_ones p x
  have hfd := fold_pa p x
  have hset := paM_set p x
  have hA16 : (aC x.orig x.hm x.med).size = 16 := rfl
  obtain ⟨LA, hLA⟩ : ∃ LA, (aC x.orig x.hm x.med) = LA := ⟨_, rfl⟩
  rw [hLA] at hcp hA16 hfd
  obtain ⟨LM, hLM⟩ : ∃ LM, paM p x = LM := ⟨_, rfl⟩
  rw [hLM] at hfd hL1 hset
  rw [← hset] at hL2
  replace hcp := Lib.hid hcp
  have hst7 : Hid (∀ w7, Below W3.heap.size W3 w7 → (storeCells ⟨w.heap.size + 1 + 1, 0, none⟩ (LM.set 28 (.bool x.stale))).run Try.prog w7 = .ok () (w7.setCells (w.heap.size + 1 + 1) 0 (LM.set 28 (.bool x.stale)))) := fun w7 h => run_store_there _ _ _ _ (by rw [List.length_set, hL1]; exact hth7.out w7 h) hL2
  have HSET := Lib.hid hset
  clear hLM hLA hset z z1 hth
  go_region_held3 (fun w' => w'.cell? ⟨w.heap.size, 0, none⟩ = some (.int .i64 p.fam) ∧ w'.cell? ⟨w.heap.size, 1, none⟩ = some (.int .u64 p.rd) ∧ w'.cell? ⟨w.heap.size, 2, none⟩ = some (.string p.addr) ∧ w'.cell? ⟨w.heap.size, 3, none⟩ = some (.int .i64 p.len) ∧ w'.cell? ⟨w.heap.size, 4, none⟩ = some (.int .u32 p.id) ∧ w'.cell? ⟨w.heap.size + 1, 0, none⟩ = some (.int .u32 x.label) ∧ w'.cell? ⟨w.heap.size + 1, 1, none⟩ = some (.int .i64 x.orig) ∧ w'.cell? ⟨w.heap.size + 1, 2, none⟩ = some (.slice none 0 0) ∧ w'.cell? ⟨w.heap.size + 1, 3, none⟩ = some (.string ⟨#[]⟩) ∧ w'.cell? ⟨w.heap.size + 1, 4, none⟩ = some (.bool x.hm) ∧ w'.cell? ⟨w.heap.size + 1, 5, none⟩ = some (.int .u32 x.med) ∧ w'.cell? ⟨w.heap.size + 1, 6, none⟩ = some (.bool false) ∧ w'.cell? ⟨w.heap.size + 1, 7, none⟩ = some (.int .u32 0) ∧ w'.cell? ⟨w.heap.size + 1, 8, none⟩ = some (.bool false) ∧ w'.cell? ⟨w.heap.size + 1, 9, none⟩ = some (.int .u32 0) ∧ w'.cell? ⟨w.heap.size + 1, 10, none⟩ = some (.int .u32 0) ∧ w'.cell? ⟨w.heap.size + 1, 11, none⟩ = some (.slice none 0 0) ∧ w'.cell? ⟨w.heap.size + 1, 12, none⟩ = some (.slice none 0 0) ∧ w'.cell? ⟨w.heap.size + 1, 13, none⟩ = some (.slice none 0 0) ∧ w'.cell? ⟨w.heap.size + 1, 14, none⟩ = some (.bool false) ∧ w'.cell? ⟨w.heap.size + 1, 15, none⟩ = some (.int .u32 0) ∧ w'.cell? ⟨w.heap.size + 1, 16, none⟩ = some (.slice none 0 0) ∧ w'.cell? ⟨w.heap.size + 1, 17, none⟩ = some (.bool x.stale))
    (first | exact hkeep.out _ hA.drew | exact hkeep.out _ (hA.trans ((hcast.out _ hb7).mono hA.size)) | exact hkeep.out _ (below_setCells (hA.trans ((hcast.out _ hb7).mono hA.size)) (by omega)))
    ((go_at_call 27; refine (hcp.out _).mono ?_; rintro e w7 ⟨rfl, hb7⟩; have hst := hst7.out w7 (hcast.out _ hb7)))
  have hb8 := hcast.out _ hb7
  have hend : (w7.setCells (w.heap.size + 1 + 1) 0 (LM.set 28 (.bool x.stale))).heap[w.heap.size + 1 + 1]? = some (.cells (paC p x) 68 (0, 0)) := by
    rw [HSET.out, paC_list]
    exact setCells_whole ((hb8.block _ (by omega)).trans hblkA) rfl (hth7.out w7 hb8)
  have hbelE : Below w.heap.size w (w7.setCells (w.heap.size + 1 + 1) 0 (LM.set 28 (.bool x.stale))) := below_setCells (hbel2.trans ((hA.trans (hb8.mono hA.size)).mono (by omega))) (by omega)
  clear hb7 hb8 hst hkeep hst7 hth7 hcp hcast hA hbel2 hb0 hb1
  go_wp2
  exact bodyPost_ret (v := .agg (paC p x)) (results_cell_row Try.results44 _ _ (w.heap.size + 1 + 1) 68 (paC p x) (0, 0) _ rfl hend Try.underlying68 rfl sizePa) rfl ⟨rfl, hbelE⟩
end Go.Proofs.Ytcljkcgccahlcaa
