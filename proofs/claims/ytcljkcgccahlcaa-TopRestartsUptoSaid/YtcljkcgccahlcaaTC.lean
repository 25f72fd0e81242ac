/- adjin.order: what it computes; it lays blocks of its own, no more. -/
import Derived.Test.YtcljkcgccahlcaaTB
import Derived.Test.YtcljkcgccahlcaaSL
import Derived.Deep.RegionHeld3
namespace Go.Proofs.Ytcljkcgccahlcaa
open Go.RowKit Go.Sort
set_option linter.unusedVariables false

/-- Some draws, and blocks behind. -/
def Gr (w w' : World) : Prop := ∃ q os, w' = grow (w.drewN q) os
theorem Gr.refl (w : World) : Gr w w := ⟨0, #[], by rw [grow_empty]; rfl⟩
theorem Gr.trans {u v w : World} (h : Gr u v) (k : Gr v w) : Gr u w := by
  obtain ⟨q, os, rfl⟩ := h
  obtain ⟨q', os', rfl⟩ := k
  refine ⟨q + q', os ++ os', ?_⟩
  show grow (grow ((u.drewN q).drewN q') os) os' = _
  rw [grow_grow, World.drewN_drewN]
theorem Gr.alloc {u v : World} (h : Gr u v) (o : Obj) : Gr u (v.alloc o) := h.trans ⟨0, #[o], alloc_eq_grow v o⟩
theorem Gr.drew {u v : World} (h : Gr u v) : Gr u v.drew := h.trans ⟨1, #[], by rw [grow_empty]; rfl⟩
theorem Gr.below {u v : World} (h : Gr u v) : Below u.heap.size u v := by
  obtain ⟨q, os, rfl⟩ := h
  exact ⟨rfl, rfl, rfl, by simp [grow, World.drewN], fun k hk => by simp [grow, World.drewN, Array.getElem?_append, hk]⟩

theorem cmpI_any (a b : Int) (w : World) : Calls Try.prog 87 #[.int .i64 a, .int .i64 b] w fun e w' => e = .returned (.int .i64 (Lib.compareInt a b)) ∧ w = w' := by
  unfold Lib.compareInt
  by_cases h1 : a < b
  · simp only [h1, if_true]
    go_enter Try.func87, Try.ntmps87
    go_wp2
    go_ret
    exact ⟨rfl, rfl⟩
  · by_cases h2 : b < a
    · simp only [h1, h2, if_true, if_false]
      go_enter Try.func87, Try.ntmps87
      go_wp2
      go_ret
      exact ⟨rfl, rfl⟩
    · simp only [h1, h2, if_false]
      go_enter Try.func87, Try.ntmps87
      go_wp2
      go_ret
      exact ⟨rfl, rfl⟩
theorem cmpU64_any (a b : Int) (w : World) : Calls Try.prog 53 #[.int .u64 a, .int .u64 b] w fun e w' => e = .returned (.int .i64 (Lib.compareInt a b)) ∧ w = w' := by
  unfold Lib.compareInt
  by_cases h1 : a < b
  · simp only [h1, if_true]
    go_enter Try.func53, Try.ntmps53
    go_wp2
    go_ret
    exact ⟨rfl, rfl⟩
  · by_cases h2 : b < a
    · simp only [h1, h2, if_true, if_false]
      go_enter Try.func53, Try.ntmps53
      go_wp2
      go_ret
      exact ⟨rfl, rfl⟩
    · simp only [h1, h2, if_false]
      go_enter Try.func53, Try.ntmps53
      go_wp2
      go_ret
      exact ⟨rfl, rfl⟩
theorem cmpU32_any (a b : Int) (w : World) : Calls Try.prog 51 #[.int .u32 a, .int .u32 b] w fun e w' => e = .returned (.int .i64 (Lib.compareInt a b)) ∧ w = w' := by
  unfold Lib.compareInt
  by_cases h1 : a < b
  · simp only [h1, if_true]
    go_enter Try.func51, Try.ntmps51
    go_wp2
    go_ret
    exact ⟨rfl, rfl⟩
  · by_cases h2 : b < a
    · simp only [h1, h2, if_true, if_false]
      go_enter Try.func51, Try.ntmps51
      go_wp2
      go_ret
      exact ⟨rfl, rfl⟩
    · simp only [h1, h2, if_false]
      go_enter Try.func51, Try.ntmps51
      go_wp2
      go_ret
      exact ⟨rfl, rfl⟩

/-- The cells of a place with its length. -/
def Pl.pre (p : Pl) : Array Value := #[.int .i64 p.fam, .int .u64 p.rd, .string p.addr, .int .i64 p.len]

/-- What the four orders say. -/
def ord (p q : Pl) : Nat → Int
  | 0 => Lib.compareInt p.fam q.fam
  | 1 => Lib.compareInt p.rd q.rd
  | 2 => Lib.compareBytes p.addr.data.toList q.addr.data.toList
  | _ => Lib.compareInt p.len q.len

theorem ord0_any (p q : Pl) (w : World) : Calls Try.prog 86 #[.agg p.pre, .agg q.pre] w fun e w' => e = .returned (.int .i64 (ord p q 0)) ∧ Gr w w' := by
  unfold Pl.pre ord
  go_enter Try.func86, Try.ntmps86
  go_wp2_with fail
  refine (cmpI_any _ _ _).mono ?_
  rintro e w' ⟨rfl, rfl⟩
  go_wp2_with fail
  go_ret
  exact ⟨rfl, ((Gr.refl w).alloc _).alloc _⟩
theorem ord1_any (p q : Pl) (w : World) : Calls Try.prog 88 #[.agg p.pre, .agg q.pre] w fun e w' => e = .returned (.int .i64 (ord p q 1)) ∧ Gr w w' := by
  unfold Pl.pre ord
  go_enter Try.func88, Try.ntmps88
  go_wp2_with fail
  refine (cmpU64_any _ _ _).mono ?_
  rintro e w' ⟨rfl, rfl⟩
  go_wp2_with fail
  go_ret
  exact ⟨rfl, ((Gr.refl w).alloc _).alloc _⟩
theorem ord2_any (p q : Pl) (w : World) : Calls Try.prog 89 #[.agg p.pre, .agg q.pre] w fun e w' => e = .returned (.int .i64 (ord p q 2)) ∧ Gr w w' := by
  unfold Pl.pre ord
  go_enter Try.func89, Try.ntmps89
  go_wp2_with fail
  refine (strings_Compare _ _ _).mono ?_
  rintro e w' ⟨rfl, rfl⟩
  go_wp2_with fail
  go_ret
  exact ⟨rfl, ((Gr.refl w).alloc _).alloc _⟩
theorem ord3_any (p q : Pl) (w : World) : Calls Try.prog 91 #[.agg p.pre, .agg q.pre] w fun e w' => e = .returned (.int .i64 (ord p q 3)) ∧ Gr w w' := by
  unfold Pl.pre ord
  go_enter Try.func91, Try.ntmps91
  go_wp2_with fail
  refine (cmpI_any _ _ _).mono ?_
  rintro e w' ⟨rfl, rfl⟩
  go_wp2_with fail
  go_ret
  exact ⟨rfl, ((Gr.refl w).alloc _).alloc _⟩

def fst0 (p q : Pl) : Nat → Int
  | 0 => 0
  | n + 1 => if ord p q (3 - n) = 0 then fst0 p q n else ord p q (3 - n)
def cfP (p q : Pl) : Int := fst0 p q 4

theorem Gr.cell {w w' : World} (h : Gr w w') {b o : Nat} (hb : b < w.heap.size) : w'.cell? ⟨b, o, none⟩ = w.cell? ⟨b, o, none⟩ := h.below.cell (p := ⟨b, o, none⟩) hb
theorem Gr.size {w w' : World} (h : Gr w w') : w.heap.size ≤ w'.heap.size := h.below.size

def ordF : Nat → FuncId
  | 0 => 86
  | 1 => 88
  | 2 => 89
  | _ => 91

set_option maxRecDepth 100000 in
set_option maxHeartbeats 2000000 in
theorem first_any (p q : Pl) (g : Nat) (w : World) (hc : ∀ k, k < 4 → w.cell? ⟨g, k, none⟩ = some (.func (.func (ordF k)) #[] #[])) :
    Calls Try.prog 85 #[.agg p.pre, .agg q.pre, .slice (some ⟨g, 0, none⟩) 4 4] w fun e w' => e = .returned (.int .i64 (cfP p q)) ∧ Gr w w' := by
  have hg : g < w.heap.size := by have := World.block_lt_of_cell? _ _ (hc 0 (by omega)); simpa using this
  have HC := Lib.hid hc
  clear hc
  unfold Pl.pre
  go_enter Try.func85, Try.ntmps85
  go_wp2_with fail
  go_loopw [12] (fun i wr => ∃ k : Nat, i = .int .i64 k ∧ k ≤ 4 ∧ Gr ((w.alloc (.cells p.pre 38)).alloc (.cells q.pre 38)) wr ∧ Hid (cfP p q = fst0 p q (4 - k))) (fun i _ => 4 - (intOf i).toNat)
  case atStart => exact ⟨0, rfl, by omega, Gr.refl _, rfl⟩
  case round =>
    obtain ⟨k, rfl, hk, hgr, hf⟩ := hrel
    have hsz := hgr.size
    simp at hsz
    have c0 : wr.cell? ⟨w.heap.size, 0, none⟩ = some (.int .i64 p.fam) := by rw [hgr.cell (by simp; omega)]; simp [Pl.pre]
    have c1 : wr.cell? ⟨w.heap.size, 1, none⟩ = some (.int .u64 p.rd) := by rw [hgr.cell (by simp; omega)]; simp [Pl.pre]
    have c2 : wr.cell? ⟨w.heap.size, 2, none⟩ = some (.string p.addr) := by rw [hgr.cell (by simp; omega)]; simp [Pl.pre]
    have c3 : wr.cell? ⟨w.heap.size, 3, none⟩ = some (.int .i64 p.len) := by rw [hgr.cell (by simp; omega)]; simp [Pl.pre]
    have d0 : wr.cell? ⟨w.heap.size + 1, 0, none⟩ = some (.int .i64 q.fam) := by rw [hgr.cell (by simp)]; simp [Pl.pre]
    have d1 : wr.cell? ⟨w.heap.size + 1, 1, none⟩ = some (.int .u64 q.rd) := by rw [hgr.cell (by simp)]; simp [Pl.pre]
    have d2 : wr.cell? ⟨w.heap.size + 1, 2, none⟩ = some (.string q.addr) := by rw [hgr.cell (by simp)]; simp [Pl.pre]
    have d3 : wr.cell? ⟨w.heap.size + 1, 3, none⟩ = some (.int .i64 q.len) := by rw [hgr.cell (by simp)]; simp [Pl.pre]
    have hgw : Gr w wr := (((Gr.refl w).alloc _).alloc _).trans hgr
    have hcg : ∀ j, j < 4 → wr.cell? ⟨g, j, none⟩ = some (.func (.func (ordF j)) #[] #[]) := fun j hj => by rw [hgw.cell hg]; exact HC.out j hj
    match k, hk with
    | 0, _ =>
      have hx := hcg 0 (by omega)
      clear hcg
      simp only [ordF] at hx
      have ho : Hid (∀ W, Calls Try.prog 86 #[.agg p.pre, .agg q.pre] W fun e w' => e = .returned (.int .i64 (ord p q 0)) ∧ Gr W w') := ord0_any p q
      have hf4 : Hid (fst0 p q 4 = if ord p q 0 = 0 then fst0 p q 3 else ord p q 0) := rfl
      by_cases h0 : ord p q 0 = 0
      · rw [h0] at ho hf4
        have H0 := Lib.hid h0
        clear h0
        go_wp2_with fail
        refine (ho.out _).mono ?_
        rintro e w' ⟨rfl, hg2⟩
        go_wp2_with fail
        go_roundw
        case rel => exact ⟨1, rfl, by omega, hgr.trans hg2, hf.out.trans (hf4.out.trans (by simp))⟩
        case measure => simp [intOf]
      · have hne : ((ord p q 0 : Int) != 0) = true := by simpa using h0
        have hres : Hid (cfP p q = ord p q 0) := hf.out.trans (hf4.out.trans (if_neg h0))
        generalize ord p q 0 = c at *
        clear h0
        go_wp2_with fail
        refine (ho.out _).mono ?_
        rintro e w' ⟨rfl, hg2⟩
        go_wp2_with fail
        go_ret
        exact ⟨by rw [hres.out]; rfl, hgw.trans hg2⟩
    | 1, _ =>
      have hx := hcg 1 (by omega)
      clear hcg
      simp only [ordF] at hx
      have ho : Hid (∀ W, Calls Try.prog 88 #[.agg p.pre, .agg q.pre] W fun e w' => e = .returned (.int .i64 (ord p q 1)) ∧ Gr W w') := ord1_any p q
      have hf4 : Hid (fst0 p q 3 = if ord p q 1 = 0 then fst0 p q 2 else ord p q 1) := rfl
      by_cases h0 : ord p q 1 = 0
      · rw [h0] at ho hf4
        have H0 := Lib.hid h0
        clear h0
        go_wp2_with fail
        refine (ho.out _).mono ?_
        rintro e w' ⟨rfl, hg2⟩
        go_wp2_with fail
        go_roundw
        case rel => exact ⟨2, rfl, by omega, hgr.trans hg2, hf.out.trans (hf4.out.trans (by simp))⟩
        case measure => simp [intOf]
      · have hne : ((ord p q 1 : Int) != 0) = true := by simpa using h0
        have hres : Hid (cfP p q = ord p q 1) := hf.out.trans (hf4.out.trans (if_neg h0))
        generalize ord p q 1 = c at *
        clear h0
        go_wp2_with fail
        refine (ho.out _).mono ?_
        rintro e w' ⟨rfl, hg2⟩
        go_wp2_with fail
        go_ret
        exact ⟨by rw [hres.out]; rfl, hgw.trans hg2⟩
    | 2, _ =>
      have hx := hcg 2 (by omega)
      clear hcg
      simp only [ordF] at hx
      have ho : Hid (∀ W, Calls Try.prog 89 #[.agg p.pre, .agg q.pre] W fun e w' => e = .returned (.int .i64 (ord p q 2)) ∧ Gr W w') := ord2_any p q
      have hf4 : Hid (fst0 p q 2 = if ord p q 2 = 0 then fst0 p q 1 else ord p q 2) := rfl
      by_cases h0 : ord p q 2 = 0
      · rw [h0] at ho hf4
        have H0 := Lib.hid h0
        clear h0
        go_wp2_with fail
        refine (ho.out _).mono ?_
        rintro e w' ⟨rfl, hg2⟩
        go_wp2_with fail
        go_roundw
        case rel => exact ⟨3, rfl, by omega, hgr.trans hg2, hf.out.trans (hf4.out.trans (by simp))⟩
        case measure => simp [intOf]
      · have hne : ((ord p q 2 : Int) != 0) = true := by simpa using h0
        have hres : Hid (cfP p q = ord p q 2) := hf.out.trans (hf4.out.trans (if_neg h0))
        generalize ord p q 2 = c at *
        clear h0
        go_wp2_with fail
        refine (ho.out _).mono ?_
        rintro e w' ⟨rfl, hg2⟩
        go_wp2_with fail
        go_ret
        exact ⟨by rw [hres.out]; rfl, hgw.trans hg2⟩
    | 3, _ =>
      have hx := hcg 3 (by omega)
      clear hcg
      simp only [ordF] at hx
      have ho : Hid (∀ W, Calls Try.prog 91 #[.agg p.pre, .agg q.pre] W fun e w' => e = .returned (.int .i64 (ord p q 3)) ∧ Gr W w') := ord3_any p q
      have hf4 : Hid (fst0 p q 1 = if ord p q 3 = 0 then fst0 p q 0 else ord p q 3) := rfl
      by_cases h0 : ord p q 3 = 0
      · rw [h0] at ho hf4
        have H0 := Lib.hid h0
        clear h0
        go_wp2_with fail
        refine (ho.out _).mono ?_
        rintro e w' ⟨rfl, hg2⟩
        go_wp2_with fail
        go_roundw
        case rel => exact ⟨4, rfl, by omega, hgr.trans hg2, hf.out.trans (hf4.out.trans (by simp))⟩
        case measure => simp [intOf]
      · have hne : ((ord p q 3 : Int) != 0) = true := by simpa using h0
        have hres : Hid (cfP p q = ord p q 3) := hf.out.trans (hf4.out.trans (if_neg h0))
        generalize ord p q 3 = c at *
        clear h0
        go_wp2_with fail
        refine (ho.out _).mono ?_
        rintro e w' ⟨rfl, hg2⟩
        go_wp2_with fail
        go_ret
        exact ⟨by rw [hres.out]; rfl, hgw.trans hg2⟩
    | 4, _ =>
      have hres : Hid (cfP p q = 0) := hf.out
      clear hcg
      go_wp2_with fail
      go_ret
      exact ⟨by rw [hres.out]; rfl, hgw⟩

set_option maxHeartbeats 2000000 in
theorem cmp_any (p q : Pl) (w : World) : Calls Try.prog 73 #[.agg p.pre, .agg q.pre] w fun e w' => e = .returned (.int .i64 (cfP p q)) ∧ Gr w w' := by
  unfold Pl.pre
  go_enter Try.func73, Try.ntmps73
  go_wp2_with fail
  refine (first_any p q _ _ (fun k hk => ?_)).mono ?_
  · match k, hk with
    | 0, _ => simp [ordF, World.cell?_alloc_at]
    | 1, _ => simp [ordF, World.cell?_alloc_at]
    | 2, _ => simp [ordF, World.cell?_alloc_at]
    | 3, _ => simp [ordF, World.cell?_alloc_at]
  rintro e w' ⟨rfl, hgr⟩
  go_wp2_with fail
  go_ret
  exact ⟨rfl, ((((Gr.refl w).alloc _).alloc _).alloc _).trans hgr⟩

end Go.Proofs.Ytcljkcgccahlcaa
