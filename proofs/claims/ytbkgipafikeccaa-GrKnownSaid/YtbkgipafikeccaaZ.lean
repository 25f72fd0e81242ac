/- gr: helpers that are none. -/
import Derived.Test.YtbkgipafikeccaaW
namespace Go.Proofs.Ytbkgipafikeccaa
open Go.RowKit
set_option linter.unusedVariables false

/-- A helper that is none: a nil pointer, or one to a block that no call of the package made. -/
def Nope (w : World) (v : Value) : Prop := v = .pointer none ∨ ∃ b, v = .pointer (some ⟨b, 0, none⟩) ∧ w.cell? ⟨b, 0, none⟩ = some (.bool false)

theorem Nope.below {w w' : World} {v : Value} (h : Nope w v) (hb : Below w.heap.size w w') : Nope w' v := by
  rcases h with rfl | ⟨b, rfl, h⟩
  · exact .inl rfl
  · exact .inr ⟨b, rfl, cell_later hb h⟩
theorem Nope.alloc {w : World} {v : Value} (h : Nope w v) (o : Obj) : Nope (w.alloc o) v := h.below ((Below.refl _ _).alloc (Nat.le_refl _) _)

set_option maxHeartbeats 400000 in
theorem none_yes (v : Value) (w : World) (h : Nope w v) : Calls Try.prog 24 #[v] w fun e w' => e = .returned (.bool true) ∧ w = w' := by
  rcases h with rfl | ⟨b, rfl, hb⟩
  · go_enter Try.func24, Try.ntmps24
    go_wp2
    go_ret
    exact ⟨rfl, rfl⟩
  · go_enter Try.func24, Try.ntmps24
    go_wp2
    go_ret
    exact ⟨rfl, rfl⟩

set_option maxRecDepth 100000 in
set_option maxHeartbeats 800000 in
theorem down_nope (v : Value) (c : Array Value) (now : Int) (w : World) (h : Nope w v) : Calls Try.prog 9 #[v, .agg c, .int .u64 now] w fun e w' => e = .returned (.tuple #[.slice none 0 0, .slice none 0 0, .int .u64 0]) ∧ Below w.heap.size w w' := by
  have HN := Lib.hid h
  rcases h with rfl | ⟨b, rfl, hb⟩
  · go_enter Try.func9, Try.ntmps9
    go_wp2_with fail
    refine (none_yes _ _ ((HN.out.alloc _).alloc _)).mono ?_
    rintro e w' ⟨rfl, rfl⟩
    go_wp2_with fail
    go_ret3
    exact ⟨rfl, ((Below.refl _ _).alloc (Nat.le_refl _) _).alloc (by simp) _⟩
  · clear hb
    go_enter Try.func9, Try.ntmps9
    go_wp2_with fail
    refine (none_yes _ _ ((HN.out.alloc _).alloc _)).mono ?_
    rintro e w' ⟨rfl, rfl⟩
    go_wp2_with fail
    go_ret3
    exact ⟨rfl, ((Below.refl _ _).alloc (Nat.le_refl _) _).alloc (by simp) _⟩

set_option maxRecDepth 100000 in
set_option maxHeartbeats 800000 in
theorem up_nope (v : Value) (oc c : Array Value) (w : World) (h : Nope w v) : Calls Try.prog 11 #[v, .agg oc, .agg c] w fun e w' => e = .returned (.slice none 0 0) ∧ Below w.heap.size w w' := by
  have HN := Lib.hid h
  rcases h with rfl | ⟨b, rfl, hb⟩
  · go_enter Try.func11, Try.ntmps11
    go_wp2_with fail
    refine (none_yes _ _ (((HN.out.alloc _).alloc _).alloc _)).mono ?_
    rintro e w' ⟨rfl, rfl⟩
    go_wp2_with fail
    go_ret
    exact ⟨rfl, (((Below.refl _ _).alloc (Nat.le_refl _) _).alloc (by simp) _).alloc (by simp; omega) _⟩
  · clear hb
    go_enter Try.func11, Try.ntmps11
    go_wp2_with fail
    refine (none_yes _ _ (((HN.out.alloc _).alloc _).alloc _)).mono ?_
    rintro e w' ⟨rfl, rfl⟩
    go_wp2_with fail
    go_ret
    exact ⟨rfl, (((Below.refl _ _).alloc (Nat.le_refl _) _).alloc (by simp) _).alloc (by simp; omega) _⟩

set_option maxHeartbeats 400000 in
theorem end_nope (v : Value) (n : Int) (w : World) (h : Nope w v) : Calls Try.prog 12 #[v, .int .i64 n] w fun e w' => e = .returned (.bool false) ∧ w = w' := by
  go_enter Try.func12, Try.ntmps12
  go_wp2_with fail
  refine (none_yes v _ h).mono ?_
  rintro e w' ⟨rfl, rfl⟩
  go_wp2_with fail
  go_ret
  exact ⟨rfl, rfl⟩

set_option maxHeartbeats 400000 in
theorem fire_nope (v : Value) (n : Int) (w : World) (h : Nope w v) : Calls Try.prog 13 #[v, .int .u64 n] w fun e w' => e = .returned (.slice none 0 0) ∧ w = w' := by
  go_enter Try.func13, Try.ntmps13
  go_wp2_with fail
  refine (none_yes v _ h).mono ?_
  rintro e w' ⟨rfl, rfl⟩
  go_wp2_with fail
  go_ret
  exact ⟨rfl, rfl⟩

set_option maxHeartbeats 400000 in
theorem stale_nope (v : Value) (w : World) (h : Nope w v) : Calls Try.prog 14 #[v] w fun e w' => e = .returned (.slice none 0 0) ∧ Below w.heap.size w w' := by
  have HN := Lib.hid h
  rcases h with rfl | ⟨b, rfl, hb⟩
  · go_enter Try.func14, Try.ntmps14
    go_wp2_with fail
    refine (none_yes _ _ (HN.out.alloc _)).mono ?_
    rintro e w' ⟨rfl, rfl⟩
    go_wp2_with fail
    go_ret
    exact ⟨rfl, (Below.refl _ _).alloc (Nat.le_refl _) _⟩
  · clear hb
    go_enter Try.func14, Try.ntmps14
    go_wp2_with fail
    refine (none_yes _ _ (HN.out.alloc _)).mono ?_
    rintro e w' ⟨rfl, rfl⟩
    go_wp2_with fail
    go_ret
    exact ⟨rfl, (Below.refl _ _).alloc (Nat.le_refl _) _⟩

set_option maxHeartbeats 400000 in
theorem copy_nope (v : Value) (w : World) (h : Nope w v) : Calls Try.prog 21 #[v] w fun e w' => e = .returned (.pointer none) ∧ w = w' := by
  go_enter Try.func21, Try.ntmps21
  go_wp2_with fail
  refine (none_yes v _ h).mono ?_
  rintro e w' ⟨rfl, rfl⟩
  go_wp2_with fail
  go_ret
  exact ⟨rfl, rfl⟩

/-! ### A session is laid into a variable, and one field of it is turned. -/
theorem one_set {c : Array Value} {i : Nat} {v : Value} (h : c.all (·.oneCell') = true) (hv : v.oneCell' = true) : (c.setIfInBounds i v).all (·.oneCell') = true := by
  rw [Array.all_eq_true] at h ⊢
  intro j hj
  have hj' : j < c.size := by simpa using hj
  rw [Array.getElem_setIfInBounds]
  split
  · exact hv
  · exact h j hj'
theorem Ses.setGR {w : World} {c : Array Value} {F : List Int} {K : List (Int × Bool)} {gr : Bool} {time : Int} (h : Ses w c F K gr time) (g : Bool) : Ses w (c.setIfInBounds 6 (.bool g)) F K g time := by
  obtain ⟨fs, f1, f2⟩ := h.fams
  obtain ⟨ks, k1, k2⟩ := h.kept
  refine ⟨by simpa using h.size, one_set h.one rfl, ⟨fs, ?_, f2⟩, ?_, ?_, ⟨ks, ?_, k2⟩, h.t1, h.t2⟩
  · rw [Array.getElem?_setIfInBounds_ne (by omega)]; exact f1
  · rw [Array.getElem?_setIfInBounds_self_of_lt (by rw [h.size]; omega)]
  · rw [Array.getElem?_setIfInBounds_ne (by omega)]; exact h.time_
  · rw [Array.getElem?_setIfInBounds_ne (by omega)]; exact k1
theorem Ses.setTime {w : World} {c : Array Value} {F : List Int} {K : List (Int × Bool)} {gr : Bool} {time : Int} (h : Ses w c F K gr time) (t : Int) (t1 : -9223372036854775808 ≤ t) (t2 : t ≤ 9223372036854775807) : Ses w (c.setIfInBounds 8 (.int .i64 t)) F K gr t := by
  obtain ⟨fs, f1, f2⟩ := h.fams
  obtain ⟨ks, k1, k2⟩ := h.kept
  refine ⟨by simpa using h.size, one_set h.one rfl, ⟨fs, ?_, f2⟩, ?_, ?_, ⟨ks, ?_, k2⟩, t1, t2⟩
  · rw [Array.getElem?_setIfInBounds_ne (by omega)]; exact f1
  · rw [Array.getElem?_setIfInBounds_ne (by omega)]; exact h.hasGR
  · rw [Array.getElem?_setIfInBounds_self_of_lt (by rw [h.size]; omega)]
  · rw [Array.getElem?_setIfInBounds_ne (by omega)]; exact k1
theorem Ses.setFams {w : World} {c : Array Value} {F G : List Int} {K : List (Int × Bool)} {gr : Bool} {time : Int} (h : Ses w c F K gr time) (a : Option Addr) (l p : Nat) (hr : Rd w (.slice a l p) G) : Ses w (c.setIfInBounds 1 (.slice a l p)) G K gr time := by
  obtain ⟨ks, k1, k2⟩ := h.kept
  refine ⟨by simpa using h.size, one_set h.one rfl, ⟨_, ?_, hr⟩, ?_, ?_, ⟨ks, ?_, k2⟩, h.t1, h.t2⟩
  · rw [Array.getElem?_setIfInBounds_self_of_lt (by rw [h.size]; omega)]
  · rw [Array.getElem?_setIfInBounds_ne (by omega)]; exact h.hasGR
  · rw [Array.getElem?_setIfInBounds_ne (by omega)]; exact h.time_
  · rw [Array.getElem?_setIfInBounds_ne (by omega)]; exact k1
end Go.Proofs.Ytbkgipafikeccaa
