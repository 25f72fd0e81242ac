/- prim.Check, way by way, at addresses of 4 bytes. -/
import Derived.Test.YtcljkcgccahlcaaTM
namespace Go.Proofs.Ytcljkcgccahlcaa
open Go.RowKit Go.Sort
set_option linter.unusedVariables false

set_option maxRecDepth 100000 in
set_option maxHeartbeats 4000000 in
theorem pc_y0_4 (p : Pl) (w : World) (hf0 : p.fam ≠ 0) (HSI : Hid (∀ w, Calls Try.prog 62 #[.int .i64 p.fam] w fun e w' => e = .returned (.int .i64 4) ∧ w = w')) (hne : ((p.addr.size : Int) != 4) = false) (hl0 : decide (p.len < 0) = false) (hl1 : decide ((32 : Int) < p.len) = false) (hr : ((p.rd : Int) != 0) = false) (r : ByteArray) (HMA : Hid (∀ w, Calls Try.prog 64 #[.string p.addr, .int .i64 p.len] w fun e w' => e = .returned (.string r) ∧ Below w.heap.size w w')) (hm : (r.toList == p.addr.toList) = true) :
    Calls Try.prog 40 #[.agg p.pre] w fun e w' => e = .returned (.int .i64 0) ∧ Below w.heap.size w w' := by
  have hz := ne_zero p hf0
  obtain ⟨hc, hc1, hc2, hc3⟩ := pre_facts p w
  have w32 : IntKind.i64.wrap 32 = 32 := by decide
  unfold Pl.pre
  clear hf0
  go_enter Try.func40, Try.ntmps40
  go_wp2_with (go_at_call 62; refine (HSI.out _).mono ?_; rintro e w' ⟨rfl, rfl⟩)
  refine wp_region_quiet_below (by kernel_rfl) (by kernel_rfl) ?_
  repeat (first | go_big_quiet_step (first | exact calls_regrown HMA.out _ _) | quiet_step (first | exact calls_regrown HMA.out _ _))
  refine wpQuiet_nil ?_
  intro _ hw'
  obtain ⟨⟨dq, osq⟩, hw''⟩ := hw'
  subst hw''
  go_wp2
  go_ret
  exact ⟨rfl, regrown_end _ _ _ _⟩

set_option maxRecDepth 100000 in
set_option maxHeartbeats 4000000 in
theorem pc_y1_4 (p : Pl) (w : World) (hf0 : p.fam ≠ 0) (HSI : Hid (∀ w, Calls Try.prog 62 #[.int .i64 p.fam] w fun e w' => e = .returned (.int .i64 4) ∧ w = w')) (hne : ((p.addr.size : Int) != 4) = false) (hl0 : decide (p.len < 0) = false) (hl1 : decide ((32 : Int) < p.len) = false) (hr : ((p.rd : Int) != 0) = true) (r : ByteArray) (HMA : Hid (∀ w, Calls Try.prog 64 #[.string p.addr, .int .i64 p.len] w fun e w' => e = .returned (.string r) ∧ Below w.heap.size w w')) (hm : (r.toList == p.addr.toList) = true) (HAP : Hid (∀ w, Calls Try.prog 63 #[.int .i64 p.fam] w fun e w' => e = .returned (.bool true) ∧ w = w')) :
    Calls Try.prog 40 #[.agg p.pre] w fun e w' => e = .returned (.int .i64 0) ∧ Below w.heap.size w w' := by
  have hz := ne_zero p hf0
  obtain ⟨hc, hc1, hc2, hc3⟩ := pre_facts p w
  have w32 : IntKind.i64.wrap 32 = 32 := by decide
  unfold Pl.pre
  clear hf0
  go_enter Try.func40, Try.ntmps40
  go_wp2_with (go_at_call 62; refine (HSI.out _).mono ?_; rintro e w' ⟨rfl, rfl⟩)
  refine wp_region_quiet_below (by kernel_rfl) (by kernel_rfl) ?_
  repeat (first | go_big_quiet_step (first | exact calls_regrown HMA.out _ _ | exact calls_regrown_same HAP.out _ _) | quiet_step (first | exact calls_regrown HMA.out _ _ | exact calls_regrown_same HAP.out _ _))
  refine wpQuiet_nil ?_
  intro _ hw'
  obtain ⟨⟨dq, osq⟩, hw''⟩ := hw'
  subst hw''
  go_wp2
  go_ret
  exact ⟨rfl, regrown_end _ _ _ _⟩

set_option maxRecDepth 100000 in
set_option maxHeartbeats 4000000 in
theorem pc_n1_4 (p : Pl) (w : World) (hf0 : p.fam ≠ 0) (HSI : Hid (∀ w, Calls Try.prog 62 #[.int .i64 p.fam] w fun e w' => e = .returned (.int .i64 4) ∧ w = w')) (hne : ((p.addr.size : Int) != 4) = true) :
    Calls Try.prog 40 #[.agg p.pre] w fun e w' => e = .returned (.int .i64 2) ∧ Below w.heap.size w w' := by
  have hz := ne_zero p hf0
  obtain ⟨hc, hc1, hc2, hc3⟩ := pre_facts p w
  have w32 : IntKind.i64.wrap 32 = 32 := by decide
  unfold Pl.pre
  clear hf0
  go_enter Try.func40, Try.ntmps40
  go_wp2_with (go_at_call 62; refine (HSI.out _).mono ?_; rintro e w' ⟨rfl, rfl⟩)
  refine wp_region_quiet_below (by kernel_rfl) (by kernel_rfl) ?_
  repeat (first | go_big_quiet_step (fail) | quiet_step (fail))
  refine wpQuiet_nil ?_
  intro _ hw'
  obtain ⟨⟨dq, osq⟩, hw''⟩ := hw'
  subst hw''
  go_wp2
  go_ret
  exact ⟨rfl, regrown_end _ _ _ _⟩

set_option maxRecDepth 100000 in
set_option maxHeartbeats 4000000 in
theorem pc_n2_4 (p : Pl) (w : World) (hf0 : p.fam ≠ 0) (HSI : Hid (∀ w, Calls Try.prog 62 #[.int .i64 p.fam] w fun e w' => e = .returned (.int .i64 4) ∧ w = w')) (hne : ((p.addr.size : Int) != 4) = false) (hl0 : decide (p.len < 0) = true) :
    Calls Try.prog 40 #[.agg p.pre] w fun e w' => e = .returned (.int .i64 2) ∧ Below w.heap.size w w' := by
  have hz := ne_zero p hf0
  obtain ⟨hc, hc1, hc2, hc3⟩ := pre_facts p w
  have w32 : IntKind.i64.wrap 32 = 32 := by decide
  unfold Pl.pre
  clear hf0
  go_enter Try.func40, Try.ntmps40
  go_wp2_with (go_at_call 62; refine (HSI.out _).mono ?_; rintro e w' ⟨rfl, rfl⟩)
  refine wp_region_quiet_below (by kernel_rfl) (by kernel_rfl) ?_
  repeat (first | go_big_quiet_step (fail) | quiet_step (fail))
  refine wpQuiet_nil ?_
  intro _ hw'
  obtain ⟨⟨dq, osq⟩, hw''⟩ := hw'
  subst hw''
  go_wp2
  go_ret
  exact ⟨rfl, regrown_end _ _ _ _⟩

set_option maxRecDepth 100000 in
set_option maxHeartbeats 4000000 in
theorem pc_n3_4 (p : Pl) (w : World) (hf0 : p.fam ≠ 0) (HSI : Hid (∀ w, Calls Try.prog 62 #[.int .i64 p.fam] w fun e w' => e = .returned (.int .i64 4) ∧ w = w')) (hne : ((p.addr.size : Int) != 4) = false) (hl0 : decide (p.len < 0) = false) (hl1 : decide ((32 : Int) < p.len) = true) :
    Calls Try.prog 40 #[.agg p.pre] w fun e w' => e = .returned (.int .i64 2) ∧ Below w.heap.size w w' := by
  have hz := ne_zero p hf0
  obtain ⟨hc, hc1, hc2, hc3⟩ := pre_facts p w
  have w32 : IntKind.i64.wrap 32 = 32 := by decide
  unfold Pl.pre
  clear hf0
  go_enter Try.func40, Try.ntmps40
  go_wp2_with (go_at_call 62; refine (HSI.out _).mono ?_; rintro e w' ⟨rfl, rfl⟩)
  refine wp_region_quiet_below (by kernel_rfl) (by kernel_rfl) ?_
  repeat (first | go_big_quiet_step (fail) | quiet_step (fail))
  refine wpQuiet_nil ?_
  intro _ hw'
  obtain ⟨⟨dq, osq⟩, hw''⟩ := hw'
  subst hw''
  go_wp2
  go_ret
  exact ⟨rfl, regrown_end _ _ _ _⟩

set_option maxRecDepth 100000 in
set_option maxHeartbeats 4000000 in
theorem pc_n4_4 (p : Pl) (w : World) (hf0 : p.fam ≠ 0) (HSI : Hid (∀ w, Calls Try.prog 62 #[.int .i64 p.fam] w fun e w' => e = .returned (.int .i64 4) ∧ w = w')) (hne : ((p.addr.size : Int) != 4) = false) (hl0 : decide (p.len < 0) = false) (hl1 : decide ((32 : Int) < p.len) = false) (hr : ((p.rd : Int) != 0) = true) (HAP : Hid (∀ w, Calls Try.prog 63 #[.int .i64 p.fam] w fun e w' => e = .returned (.bool false) ∧ w = w')) :
    Calls Try.prog 40 #[.agg p.pre] w fun e w' => e = .returned (.int .i64 2) ∧ Below w.heap.size w w' := by
  have hz := ne_zero p hf0
  obtain ⟨hc, hc1, hc2, hc3⟩ := pre_facts p w
  have w32 : IntKind.i64.wrap 32 = 32 := by decide
  unfold Pl.pre
  clear hf0
  go_enter Try.func40, Try.ntmps40
  go_wp2_with (go_at_call 62; refine (HSI.out _).mono ?_; rintro e w' ⟨rfl, rfl⟩)
  refine wp_region_quiet_below (by kernel_rfl) (by kernel_rfl) ?_
  repeat (first | go_big_quiet_step (first | exact calls_regrown_same HAP.out _ _) | quiet_step (first | exact calls_regrown_same HAP.out _ _))
  refine wpQuiet_nil ?_
  intro _ hw'
  obtain ⟨⟨dq, osq⟩, hw''⟩ := hw'
  subst hw''
  go_wp2
  go_ret
  exact ⟨rfl, regrown_end _ _ _ _⟩

set_option maxRecDepth 100000 in
set_option maxHeartbeats 4000000 in
theorem pc_n5_4 (p : Pl) (w : World) (hf0 : p.fam ≠ 0) (HSI : Hid (∀ w, Calls Try.prog 62 #[.int .i64 p.fam] w fun e w' => e = .returned (.int .i64 4) ∧ w = w')) (hne : ((p.addr.size : Int) != 4) = false) (hl0 : decide (p.len < 0) = false) (hl1 : decide ((32 : Int) < p.len) = false) (hr : ((p.rd : Int) != 0) = false) (r : ByteArray) (HMA : Hid (∀ w, Calls Try.prog 64 #[.string p.addr, .int .i64 p.len] w fun e w' => e = .returned (.string r) ∧ Below w.heap.size w w')) (hm : (r.toList == p.addr.toList) = false) :
    Calls Try.prog 40 #[.agg p.pre] w fun e w' => e = .returned (.int .i64 2) ∧ Below w.heap.size w w' := by
  have hz := ne_zero p hf0
  obtain ⟨hc, hc1, hc2, hc3⟩ := pre_facts p w
  have w32 : IntKind.i64.wrap 32 = 32 := by decide
  unfold Pl.pre
  clear hf0
  go_enter Try.func40, Try.ntmps40
  go_wp2_with (go_at_call 62; refine (HSI.out _).mono ?_; rintro e w' ⟨rfl, rfl⟩)
  refine wp_region_quiet_below (by kernel_rfl) (by kernel_rfl) ?_
  repeat (first | go_big_quiet_step (first | exact calls_regrown HMA.out _ _) | quiet_step (first | exact calls_regrown HMA.out _ _))
  refine wpQuiet_nil ?_
  intro _ hw'
  obtain ⟨⟨dq, osq⟩, hw''⟩ := hw'
  subst hw''
  go_wp2
  go_ret
  exact ⟨rfl, regrown_end _ _ _ _⟩

set_option maxRecDepth 100000 in
set_option maxHeartbeats 4000000 in
theorem pc_n6_4 (p : Pl) (w : World) (hf0 : p.fam ≠ 0) (HSI : Hid (∀ w, Calls Try.prog 62 #[.int .i64 p.fam] w fun e w' => e = .returned (.int .i64 4) ∧ w = w')) (hne : ((p.addr.size : Int) != 4) = false) (hl0 : decide (p.len < 0) = false) (hl1 : decide ((32 : Int) < p.len) = false) (hr : ((p.rd : Int) != 0) = true) (r : ByteArray) (HMA : Hid (∀ w, Calls Try.prog 64 #[.string p.addr, .int .i64 p.len] w fun e w' => e = .returned (.string r) ∧ Below w.heap.size w w')) (hm : (r.toList == p.addr.toList) = false) (HAP : Hid (∀ w, Calls Try.prog 63 #[.int .i64 p.fam] w fun e w' => e = .returned (.bool true) ∧ w = w')) :
    Calls Try.prog 40 #[.agg p.pre] w fun e w' => e = .returned (.int .i64 2) ∧ Below w.heap.size w w' := by
  have hz := ne_zero p hf0
  obtain ⟨hc, hc1, hc2, hc3⟩ := pre_facts p w
  have w32 : IntKind.i64.wrap 32 = 32 := by decide
  unfold Pl.pre
  clear hf0
  go_enter Try.func40, Try.ntmps40
  go_wp2_with (go_at_call 62; refine (HSI.out _).mono ?_; rintro e w' ⟨rfl, rfl⟩)
  refine wp_region_quiet_below (by kernel_rfl) (by kernel_rfl) ?_
  repeat (first | go_big_quiet_step (first | exact calls_regrown HMA.out _ _ | exact calls_regrown_same HAP.out _ _) | quiet_step (first | exact calls_regrown HMA.out _ _ | exact calls_regrown_same HAP.out _ _))
  refine wpQuiet_nil ?_
  intro _ hw'
  obtain ⟨⟨dq, osq⟩, hw''⟩ := hw'
  subst hw''
  go_wp2
  go_ret
  exact ⟨rfl, regrown_end _ _ _ _⟩

set_option maxRecDepth 100000 in
set_option maxHeartbeats 4000000 in
theorem pc_n0 (p : Pl) (w : World) (HSI : Hid (∀ w, Calls Try.prog 62 #[.int .i64 p.fam] w fun e w' => e = .returned (.int .i64 0) ∧ w = w')) :
    Calls Try.prog 40 #[.agg p.pre] w fun e w' => e = .returned (.int .i64 2) ∧ Below w.heap.size w w' := by
  obtain ⟨hc, hc1, hc2, hc3⟩ := pre_facts p w
  have w32 : IntKind.i64.wrap 32 = 32 := by decide
  unfold Pl.pre
  go_enter Try.func40, Try.ntmps40
  go_wp2_with (go_at_call 62; refine (HSI.out _).mono ?_; rintro e w' ⟨rfl, rfl⟩)
  refine wp_region_quiet_below (by kernel_rfl) (by kernel_rfl) ?_
  repeat (first | go_big_quiet_step (fail) | quiet_step (fail))
  refine wpQuiet_nil ?_
  intro _ hw'
  obtain ⟨⟨dq, osq⟩, hw''⟩ := hw'
  subst hw''
  go_wp2
  go_ret
  exact ⟨rfl, regrown_end _ _ _ _⟩
end Go.Proofs.Ytcljkcgccahlcaa
