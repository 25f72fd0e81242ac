/- attr.Copy, attr.Check of attributes without lists. -/
import Derived.Test.YtcljkcgccahlcaaTD
import Derived.Test.YtcljkcgccahlcaaTB
namespace Go.Proofs.Ytcljkcgccahlcaa
open Go.RowKit
set_option linter.unusedVariables false

theorem sizeA : (Try.prog.info? 47).map (·.size) = some 16 := by kernel_rfl
theorem aC_ne (a : Int) (b : Bool) (c : Int) : (aC a b c = #[]) = False := by simp [aC]
theorem aC_one (a : Int) (b : Bool) (c : Int) : (aC a b c).all (·.oneCell') = true := by simp [aC, Value.oneCell']
theorem zeroA (w : World) : (zeroValue 47).run Try.prog w = .ok (.agg (aC 0 false 0)) w := by kernel_rfl

theorem below_setRow {B g : Nat} {w W : World} {c : Array Value} (h : Below B w W) (hg : B ≤ g) : Below B w (W.setRow g c) :=
  h.trans ⟨rfl, rfl, rfl, by simp, fun k hk => setRow_other _ _ _ _ (by omega)⟩
theorem clone43 (w : World) : Calls Try.prog 57 #[.slice none 0 0] w fun e w' => e = .returned (.slice none 0 0) ∧ w = w' := by
  have hnil := fun (w : World) => Lib.run_eql_slice_nil (P := Try.prog) w 43 _ none 0 0 0 0 Try.underlying43
  go_enter Try.func57, Try.ntmps57
  go_wp2
  go_ret
  exact ⟨rfl, rfl⟩
theorem clone44 (w : World) : Calls Try.prog 58 #[.slice none 0 0] w fun e w' => e = .returned (.slice none 0 0) ∧ w = w' := by
  have hnil := fun (w : World) => Lib.run_eql_slice_nil (P := Try.prog) w 44 _ none 0 0 0 0 Try.underlying44
  go_enter Try.func58, Try.ntmps58
  go_wp2
  go_ret
  exact ⟨rfl, rfl⟩
theorem clone45 (w : World) : Calls Try.prog 59 #[.slice none 0 0] w fun e w' => e = .returned (.slice none 0 0) ∧ w = w' := by
  have hnil := fun (w : World) => Lib.run_eql_slice_nil (P := Try.prog) w 45 _ none 0 0 0 0 Try.underlying45
  go_enter Try.func59, Try.ntmps59
  go_wp2
  go_ret
  exact ⟨rfl, rfl⟩
theorem clone42 (w : World) : Calls Try.prog 56 #[.slice none 0 0] w fun e w' => e = .returned (.slice none 0 0) ∧ w = w' := by
  have hnil := fun (w : World) => Lib.run_eql_slice_nil (P := Try.prog) w 42 _ none 0 0 0 0 Try.underlying42
  go_enter Try.func56, Try.ntmps56
  go_wp2
  go_ret
  exact ⟨rfl, rfl⟩

set_option maxRecDepth 100000 in
set_option maxHeartbeats 4000000 in
theorem acopy_any (a : Int) (b : Bool) (c : Int) (w : World) : Calls Try.prog 27 #[.agg (aC a b c)] w fun e w' => e = .returned (.agg (aC a b c)) ∧ Below w.heap.size w w' := by
  have z := fun w => zeroA w
  have z1 := aC_ne 0 false 0
  unfold aC
  go_enter Try.func27, Try.ntmps27
  go_wp2_with (go_at_call 56; refine (clone42 _).mono ?_; rintro e w' ⟨rfl, rfl⟩)
  refine wp_loop_rounds 1 ?_
  rw [rounds_succ]
  go_wp2
  have hz0 := heap_alloc_new w (.cells (aC a b c) 47)
  go_region_held3 (fun w' => w'.cell? ⟨w.heap.size, 10, none⟩ = some (.slice none 0 0) ∧ w'.cell? ⟨w.heap.size, 11, none⟩ = some (.slice none 0 0) ∧ w'.cell? ⟨w.heap.size, 12, none⟩ = some (.slice none 0 0) ∧ w'.cell? ⟨w.heap.size, 15, none⟩ = some (.slice none 0 0))
    (go_keep)
    (first
      | (go_at_call 57; refine (clone43 _).mono ?_; rintro e w1 ⟨rfl, rfl⟩)
      | (go_at_call 58; refine (clone44 _).mono ?_; rintro e w1 ⟨rfl, rfl⟩)
      | (go_at_call 59; refine (clone45 _).mono ?_; rintro e w1 ⟨rfl, rfl⟩))
  clear hz0
  have hx1 : ((w.alloc (.cells (aC a b c) 47)).alloc (.cells (aC 0 false 0) 47)).heap[w.heap.size]? = some (.cells (aC a b c) 47 (0, 0)) := by rw [Below.heap_alloc _ _ _ (by simp)]; exact heap_alloc_new _ _
  have H1 := Lib.hid hx1
  clear hx1
  go_wp2_with (first
    | (refine wpList_load_row rfl 47 (.tmp 1) rfl w.heap.size rfl 47 (aC a b c) (0, 0) _ H1.out Try.underlying47 rfl sizeA ?_)
    | (refine wpList_store_row rfl 47 (.tmp 2) (.tmp 43) rfl (w.heap.size + 1) (aC a b c) rfl rfl 47 (aC 0 false 0) (heap_alloc2_new _ _ _) sizeA rfl (aC_one _ _ _) ?_))
  exact bodyPost_ret (v := .agg (aC a b c)) (results_cell_row Try.results27 _ _ (w.heap.size + 1) 47 (aC a b c) (0, 0) _ rfl (setRow_heap _ _ _ _ _ _ (heap_alloc2_new _ _ _)) Try.underlying47 rfl sizeA) rfl ⟨rfl, below_setRow (((Below.refl _ _).alloc (Nat.le_refl _) _).alloc (by simp) _).drew (by omega)⟩

/-! ### Check -/
theorem rise32 (w : World) : Calls Try.prog 50 #[.slice none 0 0, .func (.func 51) #[] #[]] w fun e w' => e = .returned (.bool true) ∧ w = w' := by
  go_enter Try.func50, Try.ntmps50
  go_wp2
  refine wp_loop_rounds 1 ?_
  rw [rounds_succ]
  go_wp2
  go_ret
  exact ⟨rfl, rfl⟩
theorem rise64 (w : World) : Calls Try.prog 52 #[.slice none 0 0, .func (.func 53) #[] #[]] w fun e w' => e = .returned (.bool true) ∧ w = w' := by
  go_enter Try.func52, Try.ntmps52
  go_wp2
  refine wp_loop_rounds 1 ?_
  rw [rounds_succ]
  go_wp2
  go_ret
  exact ⟨rfl, rfl⟩
theorem riseL (w : World) : Calls Try.prog 54 #[.slice none 0 0, .func (.func 55) #[] #[]] w fun e w' => e = .returned (.bool true) ∧ w = w' := by
  go_enter Try.func54, Try.ntmps54
  go_wp2
  refine wp_loop_rounds 1 ?_
  rw [rounds_succ]
  go_wp2
  go_ret
  exact ⟨rfl, rfl⟩
theorem path_none (w : World) : Calls Try.prog 49 #[.slice none 0 0] w fun e w' => e = .returned (.int .i64 0) ∧ w = w' := by
  go_enter Try.func49, Try.ntmps49
  go_wp2
  refine wp_loop_rounds 1 ?_
  rw [rounds_succ]
  go_wp2
  go_ret
  exact ⟨rfl, rfl⟩

/-- Attributes that may be: an origin in 0 .. 2; no MED where there is none. -/
structure AOk (a : Int) (b : Bool) (c : Int) : Prop where
  lo : 0 ≤ a
  hi : a ≤ 2
  med : b = false → c = 0

set_option maxRecDepth 100000 in
set_option maxHeartbeats 4000000 in
theorem acheck_any (a : Int) (b : Bool) (c : Int) (h : AOk a b c) (w : World) : Calls Try.prog 26 #[.agg (aC a b c)] w fun e w' => e = .returned (.int .i64 0) ∧ Below w.heap.size w w' := by
  obtain ⟨h1, h2, h3⟩ := h
  have hl : ¬ a < 0 := by omega
  have hh : ¬ 2 < a := by omega
  unfold aC
  cases b with
  | true =>
    clear h3
    go_enter Try.func26, Try.ntmps26
    go_wp2_with (first
      | (go_at_call 49; refine (path_none _).mono ?_; rintro e w' ⟨rfl, rfl⟩)
      | (go_at_call 50; refine (rise32 _).mono ?_; rintro e w' ⟨rfl, rfl⟩)
      | (go_at_call 52; refine (rise64 _).mono ?_; rintro e w' ⟨rfl, rfl⟩)
      | (go_at_call 54; refine (riseL _).mono ?_; rintro e w' ⟨rfl, rfl⟩))
    go_ret
    exact ⟨rfl, (Below.refl _ _).alloc (Nat.le_refl _) _⟩
  | false =>
    obtain rfl := h3 rfl
    clear h3
    go_enter Try.func26, Try.ntmps26
    go_wp2_with (first
      | (go_at_call 49; refine (path_none _).mono ?_; rintro e w' ⟨rfl, rfl⟩)
      | (go_at_call 50; refine (rise32 _).mono ?_; rintro e w' ⟨rfl, rfl⟩)
      | (go_at_call 52; refine (rise64 _).mono ?_; rintro e w' ⟨rfl, rfl⟩)
      | (go_at_call 54; refine (riseL _).mono ?_; rintro e w' ⟨rfl, rfl⟩))
    go_ret
    exact ⟨rfl, (Below.refl _ _).alloc (Nat.le_refl _) _⟩
end Go.Proofs.Ytcljkcgccahlcaa
