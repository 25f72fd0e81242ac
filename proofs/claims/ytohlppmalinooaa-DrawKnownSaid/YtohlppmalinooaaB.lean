/- Contracts of the methods of draw.Draws. -/
import Derived.Test.YtohlppmalinooaaA
namespace Go.Proofs.Ytohlppmalinooaa
open Go.RowKit
set_option linter.unusedVariables false

/-- The cells of Draws that are none, and of new ones. -/
def draw0 (b : Bool) : Array Value := (Value.bool b :: (List.replicate 64 (Value.int .u32 0) ++ [Value.int .i64 0, Value.int .i64 0])).toArray

set_option maxHeartbeats 400000 in
theorem zero42 (w : World) : (zeroValue 42).run Try.prog w = .ok (.agg (draw0 false)) w := by kernel_rfl
theorem draw0_ne : (draw0 false = #[]) = False := by simp [draw0]
theorem draw0_set : (draw0 false).setIfInBounds 0 (.bool true) = draw0 true := by simp [draw0]

set_option maxHeartbeats 400000 in
theorem new_any (w : World) :
    Calls Try.prog 11 #[] w fun e w' => e = .returned (.pointer (some ⟨w.heap.size, 0, none⟩)) ∧ w.alloc (.cells (draw0 true) 42) = w' := by
  have z := fun w => zero42 w
  have z1 := draw0_ne
  have z2 := draw0_set
  go_enter Try.func11, Try.ntmps11
  go_wp2
  go_ret
  exact ⟨rfl, rfl⟩

/-- Block b alone has turned. -/
structure Only (b : Nat) (w w' : World) : Prop where
  os : w'.os = w.os
  tape : w'.tape = w.tape
  output : w'.output = w.output
  size : w'.heap.size = w.heap.size
  block : ∀ k, k ≠ b → w'.heap[k]? = w.heap[k]?

theorem Only.refl (b : Nat) (w : World) : Only b w w := ⟨rfl, rfl, rfl, rfl, fun _ _ => rfl⟩
theorem Only.drew {b : Nat} {v w : World} (h : Only b v w) : Only b v w.drew := ⟨h.os, h.tape, h.output, h.size, h.block⟩
theorem Only.setCell {b : Nat} {v w : World} (h : Only b v w) (o : Nat) (u : Value) : Only b v (w.setCell ⟨b, o, none⟩ u) :=
  ⟨h.os, h.tape, h.output, by rw [World.size_setCell]; exact h.size, fun k hk => by rw [heap_setCell_other _ _ _ _ hk]; exact h.block k hk⟩

/-- The cells that say how draws wait. -/
structure DrC (c : Array Value) (q : List Int) (f : Nat) : Prop where
  size : c.size = 67
  there : c[0]? = some (.bool true)
  first : c[65]? = some (.int .i64 f)
  n : c[66]? = some (.int .i64 q.length)
  flt : f < 64
  room : q.length ≤ 64
  ring : ∀ j, j < 64 → ∃ x : Int, c[1 + j]? = some (.int .u32 x)
  at_ : ∀ i (h : i < q.length), c[1 + (f + i) % 64]? = some (.int .u32 q[i])
  bd : ∀ x ∈ q, 0 ≤ x ∧ x < 4294967296

def IsD (w : World) (b : Nat) (q : List Int) : Prop := ∃ c f, w.heap[b]? = some (.cells c 42 (0, 0)) ∧ DrC c q f

theorem cell_of (w : World) (b i : Nat) (c : Array Value) (t : TypeId) (h : w.heap[b]? = some (.cells c t (0, 0))) : w.cell? ⟨b, i, none⟩ = c[i]? := cell_of_row w b i c t _ h

set_option maxHeartbeats 400000 in
theorem left_core (b : Nat) (n : Int) (w : World) (h0 : w.cell? ⟨b, 0, none⟩ = some (.bool true)) (h66 : w.cell? ⟨b, 66, none⟩ = some (.int .i64 n)) :
    Calls Try.prog 16 #[.pointer (some ⟨b, 0, none⟩)] w fun e w' => e = .returned (.int .i64 n) ∧ w = w' := by
  go_enter Try.func16, Try.ntmps16
  go_wp2
  go_ret
  exact ⟨rfl, rfl⟩

set_option maxHeartbeats 400000 in
theorem push_core (b : Nat) (x : Int) (f n : Nat) (old : Value) (w : World) (h0 : w.cell? ⟨b, 0, none⟩ = some (.bool true)) (h66 : w.cell? ⟨b, 66, none⟩ = some (.int .i64 n)) (h65 : w.cell? ⟨b, 65, none⟩ = some (.int .i64 f))
    (hn : n < 64) (hf : f < 64) (hold : w.cell? ⟨b, 1 + (f + n) % 64, none⟩ = some old) (hfz : ∀ i, w.frozen? ⟨b, i, none⟩ = false) :
    Calls Try.prog 12 #[.pointer (some ⟨b, 0, none⟩), .int .u32 x] w fun e w' => e = .returned (.int .i64 0) ∧ w' = ((w.setCell ⟨b, 1 + (f + n) % 64, none⟩ (.int .u32 x)).setCell ⟨b, 66, none⟩ (.int .i64 (n + 1))).drew := by
  go_enter Try.func12, Try.ntmps12
  go_wp2
  go_region
  go_wp2
  go_ret
  exact ⟨rfl, rfl⟩

set_option maxHeartbeats 400000 in
theorem push_full (b : Nat) (x : Int) (w : World) (h0 : w.cell? ⟨b, 0, none⟩ = some (.bool true)) (h66 : w.cell? ⟨b, 66, none⟩ = some (.int .i64 64)) :
    Calls Try.prog 12 #[.pointer (some ⟨b, 0, none⟩), .int .u32 x] w fun e w' => e = .returned (.int .i64 7) ∧ w = w' := by
  go_enter Try.func12, Try.ntmps12
  go_wp2
  go_ret
  exact ⟨rfl, rfl⟩

set_option maxHeartbeats 400000 in
theorem none_no (b : Nat) (w : World) (h0 : w.cell? ⟨b, 0, none⟩ = some (.bool true)) :
    Calls Try.prog 17 #[.pointer (some ⟨b, 0, none⟩)] w fun e w' => e = .returned (.bool false) ∧ w = w' := by
  go_enter Try.func17, Try.ntmps17
  go_wp2
  go_ret
  exact ⟨rfl, rfl⟩

theorem size42 : (Try.prog.info? 42).map (·.size) = some 67 := by kernel_rfl
theorem draw0_size : (draw0 false).size = 67 := by simp [draw0]
theorem setRow_alloc_new (w : World) (c c' : Array Value) (t : TypeId) : (w.alloc (.cells c t)).setRow w.heap.size c' = w.alloc (.cells c' t) := by
  simp only [World.setRow, World.alloc]
  congr 1
  apply Array.ext_getElem?
  intro i
  rw [Array.getElem?_modify]
  by_cases h : w.heap.size = i
  · subst h
    simp
  · have h' : ¬ i = w.heap.size := fun e => h e.symm
    simp [h, h', Array.getElem?_push]

set_option maxHeartbeats 400000 in
theorem copy_core (b : Nat) (c : Array Value) (w : World) (hb : w.heap[b]? = some (.cells c 42 (0, 0))) (h0 : w.cell? ⟨b, 0, none⟩ = some (.bool true)) (hsz : c.size = 67) (h1 : c.all (·.oneCell') = true) :
    Calls Try.prog 15 #[.pointer (some ⟨b, 0, none⟩)] w fun e w' => e = .returned (.pointer (some ⟨w.heap.size, 0, none⟩)) ∧ w.alloc (.cells c 42) = w' := by
  have z := fun w => zero42 w
  have HB := Lib.hid hb
  have H1 := Lib.hid h1
  have HS := Lib.hid hsz
  clear hb h1 hsz
  go_enter Try.func15, Try.ntmps15
  go_wp2_with (first
    | (refine wpList_load_row rfl 42 (.tmp 7) rfl b rfl 42 c (0, 0) _ HB.out Try.underlying42 rfl (by rw [HS.out]; exact size42) ?_)
    | (refine wpList_store_row rfl 42 (.tmp 3) (.tmp 8) rfl w.heap.size c rfl rfl 42 (draw0 false) (heap_alloc_new _ _) (by rw [HS.out]; exact size42) (by rw [HS.out]; exact draw0_size) H1.out ?_; rw [setRow_alloc_new])
    | (go_at_call 17; refine (none_no b _ h0).mono ?_; rintro e w' ⟨rfl, rfl⟩))
  go_ret
  exact ⟨rfl, rfl⟩

set_option maxHeartbeats 400000 in
theorem jitter_neg (b : Nat) (base : Int) (hb : base ≤ 0) (w : World) :
    Calls Try.prog 14 #[.pointer (some ⟨b, 0, none⟩), .int .i64 base] w fun e w' => e = .returned (.int .i64 0) ∧ w = w' := by
  go_enter Try.func14, Try.ntmps14
  go_wp2
  go_ret
  exact ⟨rfl, rfl⟩

set_option maxHeartbeats 400000 in
theorem next_nil (b : Nat) (w : World) (h0 : w.cell? ⟨b, 0, none⟩ = some (.bool true)) (h66 : w.cell? ⟨b, 66, none⟩ = some (.int .i64 0)) :
    Calls Try.prog 19 #[.pointer (some ⟨b, 0, none⟩)] w fun e w' => e = .returned (.tuple #[.int .u32 0, .bool false]) ∧ w = w' := by
  go_enter Try.func19, Try.ntmps19
  go_wp2
  go_ret2
  exact ⟨rfl, rfl⟩

set_option maxHeartbeats 400000 in
theorem next_core (b : Nat) (f n : Nat) (x : Int) (w : World) (h0 : w.cell? ⟨b, 0, none⟩ = some (.bool true)) (h66 : w.cell? ⟨b, 66, none⟩ = some (.int .i64 n)) (h65 : w.cell? ⟨b, 65, none⟩ = some (.int .i64 f))
    (hn : n ≤ 64) (hn0 : 0 < n) (hne : ((n : Int) == 0) = false) (hf : f < 64) (hx : w.cell? ⟨b, 1 + f, none⟩ = some (.int .u32 x)) (hfz : ∀ i, w.frozen? ⟨b, i, none⟩ = false) :
    Calls Try.prog 19 #[.pointer (some ⟨b, 0, none⟩)] w fun e w' => e = .returned (.tuple #[.int .u32 x, .bool true]) ∧ ((w.setCell ⟨b, 65, none⟩ (.int .i64 ((f + 1) % 64))).setCell ⟨b, 66, none⟩ (.int .i64 (n - 1))).drew = w' := by
  go_enter Try.func19, Try.ntmps19
  go_wp2
  go_region
  go_wp2
  go_ret2
  exact ⟨rfl, rfl⟩

set_option maxHeartbeats 400000 in
theorem by_nil (b : Nat) (base : Int) (w : World) (h0 : w.cell? ⟨b, 0, none⟩ = some (.bool true)) (h66 : w.cell? ⟨b, 66, none⟩ = some (.int .i64 0)) :
    Calls Try.prog 18 #[.int .i64 base, .func (Fn.func 19) #[.pointer (some ⟨b, 0, none⟩)] #[]] w fun e w' => e = .returned (.int .i64 base) ∧ w = w' := by
  go_enter Try.func18, Try.ntmps18
  go_wp2_with fail
  refine (next_nil b _ h0 h66).mono ?_
  rintro e w' ⟨rfl, rfl⟩
  go_wp2_with fail
  go_ret
  exact ⟨rfl, rfl⟩

set_option maxHeartbeats 400000 in
theorem by_core (b : Nat) (base : Int) (f n : Nat) (x : Int) (w : World) (h0 : w.cell? ⟨b, 0, none⟩ = some (.bool true)) (h66 : w.cell? ⟨b, 66, none⟩ = some (.int .i64 n)) (h65 : w.cell? ⟨b, 65, none⟩ = some (.int .i64 f))
    (hn : n ≤ 64) (hn0 : 0 < n) (hne : ((n : Int) == 0) = false) (hf : f < 64) (hx : w.cell? ⟨b, 1 + f, none⟩ = some (.int .u32 x)) (hfz : ∀ i, w.frozen? ⟨b, i, none⟩ = false)
    (hb2 : base < 9223372036854775808) (x1 : 0 ≤ x) (x2 : x < 4294967296) :
    Calls Try.prog 18 #[.int .i64 base, .func (Fn.func 19) #[.pointer (some ⟨b, 0, none⟩)] #[]] w fun e w' => e = .returned (.int .i64 (ofV base x)) ∧ ((w.setCell ⟨b, 65, none⟩ (.int .i64 ((f + 1) % 64))).setCell ⟨b, 66, none⟩ (.int .i64 (n - 1))).drew = w' := by
  go_enter Try.func18, Try.ntmps18
  go_wp2_with fail
  refine (next_core b f n x _ h0 h66 h65 hn hn0 hne hf hx hfz).mono ?_
  rintro e w' ⟨rfl, rfl⟩
  go_wp2_with fail
  refine (of_any base x _ hb2 x1 x2).mono ?_
  rintro e w' ⟨rfl, rfl⟩
  go_wp2_with fail
  go_ret
  exact ⟨rfl, rfl⟩

set_option maxHeartbeats 400000 in
theorem jitter_nil (b : Nat) (base : Int) (hb : 0 < base) (w : World) (h0 : w.cell? ⟨b, 0, none⟩ = some (.bool true)) (h66 : w.cell? ⟨b, 66, none⟩ = some (.int .i64 0)) :
    Calls Try.prog 14 #[.pointer (some ⟨b, 0, none⟩), .int .i64 base] w fun e w' => e = .returned (.int .i64 base) ∧ w = w' := by
  go_enter Try.func14, Try.ntmps14
  go_wp2_with fail
  refine (by_nil b base _ h0 h66).mono ?_
  rintro e w' ⟨rfl, rfl⟩
  go_wp2_with fail
  go_ret
  exact ⟨rfl, rfl⟩

set_option maxHeartbeats 400000 in
theorem jitter_core (b : Nat) (base : Int) (hb : 0 < base) (f n : Nat) (x : Int) (w : World) (h0 : w.cell? ⟨b, 0, none⟩ = some (.bool true)) (h66 : w.cell? ⟨b, 66, none⟩ = some (.int .i64 n)) (h65 : w.cell? ⟨b, 65, none⟩ = some (.int .i64 f))
    (hn : n ≤ 64) (hn0 : 0 < n) (hne : ((n : Int) == 0) = false) (hf : f < 64) (hx : w.cell? ⟨b, 1 + f, none⟩ = some (.int .u32 x)) (hfz : ∀ i, w.frozen? ⟨b, i, none⟩ = false)
    (hb2 : base < 9223372036854775808) (x1 : 0 ≤ x) (x2 : x < 4294967296) :
    Calls Try.prog 14 #[.pointer (some ⟨b, 0, none⟩), .int .i64 base] w fun e w' => e = .returned (.int .i64 (ofV base x)) ∧ ((w.setCell ⟨b, 65, none⟩ (.int .i64 ((f + 1) % 64))).setCell ⟨b, 66, none⟩ (.int .i64 (n - 1))).drew = w' := by
  go_enter Try.func14, Try.ntmps14
  go_wp2_with fail
  refine (by_core b base f n x _ h0 h66 h65 hn hn0 hne hf hx hfz hb2 x1 x2).mono ?_
  rintro e w' ⟨rfl, rfl⟩
  go_wp2_with fail
  go_ret
  exact ⟨rfl, rfl⟩
end Go.Proofs.Ytohlppmalinooaa
