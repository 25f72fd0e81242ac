/- The contract of heraldref14.Jitter; what is done to draws in whatever state. -/
import Derived.Test.YtohlppmalinooaaF
import Derived.Deep.QuietTactic
import Derived.BigQuiet
namespace Go.Proofs.Ytohlppmalinooaa
open Go.RowKit
set_option linter.unusedVariables false

set_option maxHeartbeats 400000 in
theorem ref_neg (ao : Option Addr) (n cap : Nat) (base : Int) (hb : base ≤ 0) (w : World) :
    Calls Try.prog 13 #[.slice ao n cap, .int .i64 base] w fun e w' => e = .returned (.tuple #[.int .i64 0, .slice ao n cap]) ∧ w = w' := by
  go_enter Try.func13, Try.ntmps13
  go_wp2
  go_ret2
  exact ⟨rfl, rfl⟩

set_option maxHeartbeats 400000 in
theorem ref_nil (ao : Option Addr) (cap : Nat) (base : Int) (hb : 0 < base) (w : World) :
    Calls Try.prog 13 #[.slice ao 0 cap, .int .i64 base] w fun e w' => e = .returned (.tuple #[.int .i64 base, .slice ao 0 cap]) ∧ w = w' := by
  go_enter Try.func13, Try.ntmps13
  go_wp2
  go_ret2
  exact ⟨rfl, rfl⟩

set_option maxHeartbeats 400000 in
theorem ref_more (g off n cap : Nat) (base x : Int) (hb : 0 < base) (hb2 : base < 9223372036854775808) (x1 : 0 ≤ x) (x2 : x < 4294967296) (hn : 0 < n) (hn1 : ((n : Int) == 0) = false) (hnc : n ≤ cap) (hc : 1 < cap) (hcm : cap ≤ 9223372036854775807)
    (w : World) (hx : w.cell? ⟨g, off, none⟩ = some (.int .u32 x)) :
    Calls Try.prog 13 #[.slice (some ⟨g, off, none⟩) n cap, .int .i64 base] w fun e w' => e = .returned (.tuple #[.int .i64 (ofV base x), .slice (some ⟨g, off + 1, none⟩) (n - 1) (cap - 1)]) ∧ ∃ k, w' = w.drewN k := by
  go_enter Try.func13, Try.ntmps13
  go_wp2_with fail
  go_quiet ((go_at_call 9; exact Calls.quiet_of_same ((ref_any base x _ hb2 x1 x2).mono fun _ _ ⟨h1, h2⟩ => ⟨h1, h2.symm⟩)))
  go_wp2
  go_ret2
  exact ⟨rfl, _, rfl⟩

set_option maxHeartbeats 400000 in
theorem ref_last (g off : Nat) (base x : Int) (hb : 0 < base) (hb2 : base < 9223372036854775808) (x1 : 0 ≤ x) (x2 : x < 4294967296)
    (w : World) (hx : w.cell? ⟨g, off, none⟩ = some (.int .u32 x)) :
    Calls Try.prog 13 #[.slice (some ⟨g, off, none⟩) 1 1, .int .i64 base] w fun e w' => e = .returned (.tuple #[.int .i64 (ofV base x), .slice (some ⟨g, off, none⟩) 0 0]) ∧ ∃ k, w' = w.drewN k := by
  go_enter Try.func13, Try.ntmps13
  go_wp2_with fail
  go_quiet ((go_at_call 9; exact Calls.quiet_of_same ((ref_any base x _ hb2 x1 x2).mono fun _ _ ⟨h1, h2⟩ => ⟨h1, h2.symm⟩)))
  go_wp2
  go_ret2
  exact ⟨rfl, _, rfl⟩

/-- What a jitter answers, and what waits then. -/
def jv (base : Int) (q : List Int) : Int := if base ≤ 0 then 0 else match q with | [] => base | x :: _ => ofV base x
def jq (base : Int) (q : List Int) : List Int := if base ≤ 0 then q else q.tail

theorem jq_sub (base : Int) (q : List Int) : ∀ x ∈ jq base q, x ∈ q := by
  intro x hx
  unfold jq at hx
  split at hx
  · exact hx
  · exact List.mem_of_mem_tail hx
theorem jq_len (base : Int) (q : List Int) : (jq base q).length ≤ q.length := by
  unfold jq
  split <;> simp

theorem Waits.drewN {w : World} {B b cap : Nat} {ao : Option Addr} {q : List Int} (h : Waits w B b ao cap q) (k : Nat) : Waits (w.drewN k) B b ao cap q := h.move (fun _ _ _ => rfl) (.inl rfl)

theorem refJ_any (B b : Nat) (ao : Option Addr) (cap : Nat) (q : List Int) (base : Int) (hb2 : base < 9223372036854775808) (w : World) (h : Waits w B b ao cap q) (hbd : ∀ x ∈ q, 0 ≤ x ∧ x < 4294967296) :
    Calls Try.prog 13 #[.slice ao q.length cap, .int .i64 base] w fun e w' =>
      ∃ ao' cap', e = .returned (.tuple #[.int .i64 (jv base q), .slice ao' (jq base q).length cap']) ∧ ∃ k, w' = w.drewN k ∧ Waits w' B b ao' cap' (jq base q) := by
  by_cases hb : base ≤ 0
  · refine (ref_neg ao q.length cap base hb w).mono ?_
    rintro e w' ⟨rfl, rfl⟩
    exact ⟨ao, cap, by simp [jv, jq, hb], 0, rfl, by simpa [jq, hb] using h⟩
  · have hb1 : 0 < base := by omega
    rcases q with _ | ⟨x, q⟩
    · refine (ref_nil ao cap base hb1 w).mono ?_
      rintro e w' ⟨rfl, rfl⟩
      exact ⟨ao, cap, by simp [jv, jq, hb], 0, rfl, by simpa [jq, hb] using h⟩
    · obtain ⟨g, off, rfl, hx⟩ := h.form
      obtain ⟨x1, x2⟩ := hbd x (by simp)
      have hle := h.le
      have hmx := h.max
      unfold maxLen at hmx
      simp only [List.length_cons] at hle
      by_cases hc : cap = 1
      · subst hc
        obtain ⟨rfl, ht⟩ := h.tail1
        refine (ref_last g off base x hb1 hb2 x1 x2 w hx).mono ?_
        rintro e w' ⟨rfl, k, rfl⟩
        exact ⟨some ⟨g, off, none⟩, 0, by simp [jv, jq, hb], k, rfl, by simpa [jq, hb] using ht.drewN k⟩
      · refine (ref_more g off (q.length + 1) cap base x hb1 hb2 x1 x2 (by omega) (by simp; omega) hle (by omega) (by omega) w hx).mono ?_
        rintro e w' ⟨rfl, k, rfl⟩
        exact ⟨some ⟨g, off + 1, none⟩, cap - 1, by simp [jv, jq, hb], k, rfl, by simpa [jq, hb] using h.tail.drewN k⟩

theorem jit_any (b : Nat) (base : Int) (hb2 : base < 9223372036854775808) (q : List Int) (w : World) (h : IsD w b q) :
    Calls Try.prog 14 #[.pointer (some ⟨b, 0, none⟩), .int .i64 base] w fun e w' => e = .returned (.int .i64 (jv base q)) ∧ IsD w' b (jq base q) ∧ Only b w w' := by
  by_cases hb : base ≤ 0
  · refine (jitter_neg b base hb w).mono ?_
    rintro e w' ⟨rfl, rfl⟩
    exact ⟨by simp [jv, hb], by simpa [jq, hb] using h, Only.refl _ _⟩
  · rcases q with _ | ⟨x, q⟩
    · refine (jitter_any_nil b base (by omega) w h).mono ?_
      rintro e w' ⟨rfl, rfl⟩
      exact ⟨by simp [jv, hb], by simpa [jq, hb] using h, Only.refl _ _⟩
    · refine (jitter_any b base (by omega) hb2 x q w h).mono ?_
      rintro e w' ⟨rfl, h1, h2⟩
      exact ⟨by simp [jv, hb], by simpa [jq, hb] using h1, h2⟩

/-- A push, whether there is room or not. -/
theorem push_some (b : Nat) (q : List Int) (x : Int) (x1 : 0 ≤ x) (x2 : x < 4294967296) (w : World) (h : IsD w b q) :
    Calls Try.prog 12 #[.pointer (some ⟨b, 0, none⟩), .int .u32 x] w fun e w' => ∃ (r : Int) (q' : List Int), e = .returned (.int .i64 r) ∧ IsD w' b q' ∧ Only b w w' := by
  by_cases hq : q.length < 64
  · exact (push_any b q x x1 x2 w h hq).mono fun e w' ⟨h1, h2, h3⟩ => ⟨_, _, h1, h2, h3⟩
  · refine (push_any_full b q x w h (by omega)).mono ?_
    rintro e w' ⟨rfl, rfl⟩
    exact ⟨_, q, rfl, h, Only.refl _ _⟩
end Go.Proofs.Ytohlppmalinooaa
