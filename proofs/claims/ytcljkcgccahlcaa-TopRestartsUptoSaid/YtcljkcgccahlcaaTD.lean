/- adjin.order, joined. -/
import Derived.Test.YtcljkcgccahlcaaTC
namespace Go.Proofs.Ytcljkcgccahlcaa
open Go.RowKit Go.Sort
set_option linter.unusedVariables false

def orB (a b : Int) : Int := if a = 0 then b else a
set_option maxHeartbeats 2000000 in
theorem or_any (a b : Int) (g : Nat) (w : World) (h0 : w.cell? ⟨g, 0, none⟩ = some (.int .i64 a)) (h1 : w.cell? ⟨g, 1, none⟩ = some (.int .i64 b)) :
    Calls Try.prog 70 #[.slice (some ⟨g, 0, none⟩) 2 2] w fun e w' => e = .returned (.int .i64 (orB a b)) ∧ w = w' := by
  by_cases ha : a = 0
  · have hr : Hid (orB a b = b) := by show _ = _; simp [orB, ha]
    rw [ha] at h0
    clear ha
    by_cases hb : b = 0
    · rw [hb] at h1
      replace hr : Hid (orB a b = 0) := hr.out.trans hb
      clear hb
      go_enter Try.func70, Try.ntmps70
      go_wp2
      refine wp_loop_rounds 3 ?_
      rw [rounds_succ]
      go_wp2
      rw [rounds_succ]
      go_wp2
      rw [rounds_succ]
      go_wp2
      go_ret
      exact ⟨by rw [hr.out]; rfl, rfl⟩
    · have hne : ((b : Int) != 0) = true := by simpa using hb
      clear hb
      go_enter Try.func70, Try.ntmps70
      go_wp2
      refine wp_loop_rounds 2 ?_
      rw [rounds_succ]
      go_wp2
      rw [rounds_succ]
      go_wp2
      go_ret
      exact ⟨by rw [hr.out]; rfl, rfl⟩
  · have hne : ((a : Int) != 0) = true := by simpa using ha
    have hr : Hid (orB a b = a) := by show _ = _; simp [orB, ha]
    clear ha
    go_enter Try.func70, Try.ntmps70
    go_wp2
    refine wp_loop_rounds 1 ?_
    rw [rounds_succ]
    go_wp2
    go_ret
    exact ⟨by rw [hr.out]; rfl, rfl⟩

/-- The order of places. -/
def cfO (p q : Pl) : Int := orB (cfP p q) (Lib.compareInt p.id q.id)

def OrdS (p q : Pl) (n : Nat) (w' : World) : Prop := w'.cell? ⟨n, 0, none⟩ = some (.int .i64 p.fam) ∧ w'.cell? ⟨n, 1, none⟩ = some (.int .u64 p.rd) ∧ w'.cell? ⟨n, 2, none⟩ = some (.string p.addr) ∧ w'.cell? ⟨n, 3, none⟩ = some (.int .i64 p.len) ∧ w'.cell? ⟨n, 4, none⟩ = some (.int .u32 p.id)
  ∧ w'.cell? ⟨n + 1, 0, none⟩ = some (.int .i64 q.fam) ∧ w'.cell? ⟨n + 1, 1, none⟩ = some (.int .u64 q.rd) ∧ w'.cell? ⟨n + 1, 2, none⟩ = some (.string q.addr) ∧ w'.cell? ⟨n + 1, 3, none⟩ = some (.int .i64 q.len) ∧ w'.cell? ⟨n + 1, 4, none⟩ = some (.int .u32 q.id)
theorem ordS {p q : Pl} {w w1 : World} (h : Gr ((w.alloc (.cells p.val 83)).alloc (.cells q.val 83)) w1) : OrdS p q w.heap.size w1 := by
  unfold OrdS
  rw [h.cell (by simp; omega), h.cell (by simp; omega), h.cell (by simp; omega), h.cell (by simp; omega), h.cell (by simp; omega), h.cell (by simp), h.cell (by simp), h.cell (by simp), h.cell (by simp), h.cell (by simp)]
  simp [Pl.val]

set_option maxRecDepth 100000 in
set_option maxHeartbeats 4000000 in
theorem order_any (p q : Pl) (w : World) : Calls Try.prog 61 #[.agg p.val, .agg q.val] w fun e w' => e = .returned (.int .i64 (cfO p q)) ∧ Gr w w' := by
  have hcmp : ∀ W, Calls Try.prog 73 #[.agg #[.int .i64 p.fam, .int .u64 p.rd, .string p.addr, .int .i64 p.len], .agg #[.int .i64 q.fam, .int .u64 q.rd, .string q.addr, .int .i64 q.len]] W fun e w' => e = .returned (.int .i64 (cfP p q)) ∧ Gr W w' := cmp_any p q
  have HCMP := Lib.hid hcmp
  clear hcmp
  unfold Pl.val
  go_enter Try.func61, Try.ntmps61
  go_wp2_with fail
  have g0 := Gr.refl ((w.alloc (.cells p.val 83)).alloc (.cells q.val 83))
  simp only [Pl.val] at g0
  go_region_held3 (fun w' => w'.cell? ⟨w.heap.size, 0, none⟩ = some (.int .i64 p.fam) ∧ w'.cell? ⟨w.heap.size, 1, none⟩ = some (.int .u64 p.rd) ∧ w'.cell? ⟨w.heap.size, 2, none⟩ = some (.string p.addr) ∧ w'.cell? ⟨w.heap.size, 3, none⟩ = some (.int .i64 p.len) ∧ w'.cell? ⟨w.heap.size, 4, none⟩ = some (.int .u32 p.id)
      ∧ w'.cell? ⟨w.heap.size + 1, 0, none⟩ = some (.int .i64 q.fam) ∧ w'.cell? ⟨w.heap.size + 1, 1, none⟩ = some (.int .u64 q.rd) ∧ w'.cell? ⟨w.heap.size + 1, 2, none⟩ = some (.string q.addr) ∧ w'.cell? ⟨w.heap.size + 1, 3, none⟩ = some (.int .i64 q.len) ∧ w'.cell? ⟨w.heap.size + 1, 4, none⟩ = some (.int .u32 q.id))
    (first | exact ordS g0.drew | exact ordS (g0.drew.trans hg1) | exact ordS ((g0.drew.trans hg1).alloc _))
    (first
      | (go_at_call 73; refine (HCMP.out _).mono ?_; rintro e w1 ⟨rfl, hg1⟩)
      | (go_at_call 51; refine (cmpU32_any _ _ _).mono ?_; rintro e w2 ⟨rfl, rfl⟩)
      | (go_at_call 70; refine (or_any (cfP p q) (Lib.compareInt p.id q.id) _ _ (by simp [World.cell?_alloc_at]) (by simp [World.cell?_alloc_at])).mono ?_; rintro e w3 ⟨rfl, rfl⟩))
  go_wp2_with fail
  go_ret
  exact ⟨rfl, ((((Gr.refl w).alloc _).alloc _).drew.trans hg1).alloc _⟩
end Go.Proofs.Ytcljkcgccahlcaa
