/- heraldlaw32: has, is, session; heraldref32: Same, Has. -/
import Derived.Test.YtbkgipafikeccaaU
import Derived.Deep.QuietTactic
import Derived.BigQuiet
namespace Go.Proofs.Ytbkgipafikeccaa
open Go.RowKit
set_option linter.unusedVariables false

/-- Memory is as it was. -/
structure Still (w w' : World) : Prop where
  heap : w'.heap = w.heap
  os : w'.os = w.os
  tape : w'.tape = w.tape
  output : w'.output = w.output
theorem Still.drewN (w : World) (k : Nat) : Still w (w.drewN k) := ⟨rfl, rfl, rfl, rfl⟩
theorem Still.refl (w : World) : Still w w := ⟨rfl, rfl, rfl, rfl⟩
theorem Still.below {B : Nat} {w w' : World} (h : Still w w') : Below B w w' := ⟨h.os, h.tape, h.output, by rw [h.heap]; exact Nat.le_refl _, fun k _ => by rw [h.heap]⟩
theorem Still.blk {w w' : World} (h : Still w w') (k : Nat) : w'.heap[k]? = w.heap[k]? := by rw [h.heap]

def hasB (L : List Int) (n : Int) : Bool := L.contains n
def eqB (A B : List Int) : Bool := A == B

theorem not_contains {L : List Int} {n : Int} (h : ∀ i, i < L.length → L.getD i 0 ≠ n) : hasB L n = false := by
  unfold hasB
  rw [← Bool.not_eq_true, List.contains_iff_mem]
  intro hm
  obtain ⟨i, hi, e⟩ := List.getElem_of_mem hm
  exact h i hi (by simp [List.getD_eq_getElem?_getD, List.getElem?_eq_getElem hi, e])
theorem is_contains {L : List Int} {n : Int} {k : Nat} (hk : k < L.length) (h : L.getD k 0 = n) : hasB L n = true := by
  unfold hasB
  rw [List.contains_iff_mem]
  simp [List.getD_eq_getElem?_getD, List.getElem?_eq_getElem hk] at h
  rw [← h]; exact List.getElem_mem hk

set_option maxHeartbeats 400000 in
theorem has_any (v : Value) (L : List Int) (n : Int) (w : World) (h : Rd w v L) : Calls Try.prog 10 #[v, .int .i64 n] w fun e w' => e = .returned (.bool (hasB L n)) ∧ w = w' := by
  obtain ⟨ao, cap, g, off, rfl, hcap, hao, hcell⟩ := h.open_
  have hlm : L.length ≤ 9223372036854775807 := by have := h.max; unfold maxLen at this; omega
  have HA := Lib.hid hao
  have HC := Lib.hid hcell
  clear hao hcell hcap h
  go_enter Try.func10, Try.ntmps10
  go_wp2
  go_loop [5] (fun i => ∃ k : Nat, i = .int .i64 k ∧ k ≤ L.length ∧ Hid (∀ i, i < k → L.getD i 0 ≠ n)) (fun i => L.length - (intOf i).toNat)
  case atStart => exact ⟨0, rfl, Nat.zero_le _, fun i hi => by omega⟩
  case round =>
    obtain ⟨k, rfl, hk, HN⟩ := hrel
    by_cases hlt : k < L.length
    · obtain ⟨rfl, hg⟩ := HA.out (by omega)
      have hc := HC.out k hlt
      obtain ⟨m, hm⟩ : ∃ m, L.getD k 0 = m := ⟨_, rfl⟩
      rw [hm] at hc
      have HM := Lib.hid hm
      clear hm
      by_cases hmn : m = n
      · have he : (m == n) = true := by simp [hmn]
        have HR : Hid (hasB L n = true) := is_contains hlt (HM.out.trans hmn)
        clear hmn
        go_wp2
        go_ret
        exact ⟨by rw [HR.out]; rfl, rfl⟩
      · have he : (m == n) = false := by simp [hmn]
        have HN2 : Hid (∀ i, i < k + 1 → L.getD i 0 ≠ n) := by
          intro i hi
          rcases Nat.lt_or_ge i k with h1 | h1
          · exact HN.out i h1
          · obtain rfl : i = k := by omega
            rw [HM.out]; exact hmn
        clear hmn
        go_wp2
        go_round
        case rel => exact ⟨k + 1, by go_num, by omega, HN2⟩
        case measure => simp [intOf]; omega
    · obtain rfl : k = L.length := by omega
      have HR : Hid (hasB L n = false) := not_contains HN.out
      clear hlt hk
      go_wp2
      go_ret
      exact ⟨by rw [HR.out]; rfl, rfl⟩

set_option maxHeartbeats 400000 in
theorem refHas_any (v : Value) (L : List Int) (n : Int) (w : World) (h : Rd w v L) : Calls Try.prog 36 #[v, .int .i64 n] w fun e w' => e = .returned (.bool (hasB L n)) ∧ w = w' := by
  obtain ⟨ao, cap, g, off, rfl, hcap, hao, hcell⟩ := h.open_
  have hlm : L.length ≤ 9223372036854775807 := by have := h.max; unfold maxLen at this; omega
  have HA := Lib.hid hao
  have HC := Lib.hid hcell
  clear hao hcell hcap h
  go_enter Try.func36, Try.ntmps36
  go_wp2
  go_loop [5] (fun i => ∃ k : Nat, i = .int .i64 k ∧ k ≤ L.length ∧ Hid (∀ i, i < k → L.getD i 0 ≠ n)) (fun i => L.length - (intOf i).toNat)
  case atStart => exact ⟨0, rfl, Nat.zero_le _, fun i hi => by omega⟩
  case round =>
    obtain ⟨k, rfl, hk, HN⟩ := hrel
    by_cases hlt : k < L.length
    · obtain ⟨rfl, hg⟩ := HA.out (by omega)
      have hc := HC.out k hlt
      obtain ⟨m, hm⟩ : ∃ m, L.getD k 0 = m := ⟨_, rfl⟩
      rw [hm] at hc
      have HM := Lib.hid hm
      clear hm
      by_cases hmn : m = n
      · have he : (m == n) = true := by simp [hmn]
        have HR : Hid (hasB L n = true) := is_contains hlt (HM.out.trans hmn)
        clear hmn
        go_wp2
        go_ret
        exact ⟨by rw [HR.out]; rfl, rfl⟩
      · have he : (m == n) = false := by simp [hmn]
        have HN2 : Hid (∀ i, i < k + 1 → L.getD i 0 ≠ n) := by
          intro i hi
          rcases Nat.lt_or_ge i k with h1 | h1
          · exact HN.out i h1
          · obtain rfl : i = k := by omega
            rw [HM.out]; exact hmn
        clear hmn
        go_wp2
        go_round
        case rel => exact ⟨k + 1, by go_num, by omega, HN2⟩
        case measure => simp [intOf]; omega
    · obtain rfl : k = L.length := by omega
      have HR : Hid (hasB L n = false) := not_contains HN.out
      clear hlt hk
      go_wp2
      go_ret
      exact ⟨by rw [HR.out]; rfl, rfl⟩


theorem eq_lists {A B : List Int} (hl : A.length = B.length) (h : ∀ i, i < A.length → A.getD i 0 = B.getD i 0) : A = B := by
  apply List.ext_getElem hl
  intro i h1 h2
  have := h i h1
  simpa [List.getD_eq_getElem?_getD, List.getElem?_eq_getElem h1, List.getElem?_eq_getElem h2] using this

set_option maxHeartbeats 800000 in
theorem is_any (u v : Value) (A B : List Int) (w : World) (h1 : Rd w u A) (h2 : Rd w v B) : Calls Try.prog 23 #[u, v] w fun e w' => e = .returned (.bool (eqB A B)) ∧ Still w w' := by
  obtain ⟨ao, cap, g, off, rfl, hcap, hao, hcell⟩ := h1.open_
  obtain ⟨ao', cap', g', off', rfl, hcap', hao', hcell'⟩ := h2.open_
  have hlm : A.length ≤ 9223372036854775807 := by have := h1.max; unfold maxLen at this; omega
  have hlm' : B.length ≤ 9223372036854775807 := by have := h2.max; unfold maxLen at this; omega
  have HA := Lib.hid hao
  have HC := Lib.hid hcell
  have HA' := Lib.hid hao'
  have HC' := Lib.hid hcell'
  clear hao hcell hcap h1 hao' hcell' hcap' h2
  by_cases hl : A.length = B.length
  · have hne : ((A.length : Int) != (B.length : Int)) = false := by simp [hl]
    have HL := Lib.hid hl
    clear hl
    go_enter Try.func23, Try.ntmps23
    go_wp2
    clear hne
    go_loopw [5] (fun i wr => ∃ k nq : Nat, i = .int .i64 k ∧ k ≤ A.length ∧ wr = w.drewN nq ∧ Hid (∀ i, i < k → A.getD i 0 = B.getD i 0)) (fun i _ => A.length - (intOf i).toNat)
    case atStart => exact ⟨0, 0, rfl, Nat.zero_le _, rfl, fun i hi => by omega⟩
    case round =>
      obtain ⟨k, n0, rfl, hk, hwr, HN⟩ := hrel
      have HW := Lib.hid hwr
      clear hwr
      have hll := HL.out
      by_cases hlt : k < A.length
      · obtain ⟨rfl, hg⟩ := HA.out (by omega)
        obtain ⟨rfl, hg'⟩ := HA'.out (by omega)
        have hlt' : k < B.length := by omega
        clear hll
        have hc : wr.cell? ⟨g, off + k, none⟩ = some (.int .i64 (A.getD k 0)) := by rw [HW.out]; exact HC.out k hlt
        have hc' : wr.cell? ⟨g', off' + k, none⟩ = some (.int .i64 (B.getD k 0)) := by rw [HW.out]; exact HC'.out k hlt'
        obtain ⟨m, hm⟩ : ∃ m, A.getD k 0 = m := ⟨_, rfl⟩
        obtain ⟨m', hm'⟩ : ∃ m', B.getD k 0 = m' := ⟨_, rfl⟩
        rw [hm] at hc
        rw [hm'] at hc'
        have HM := Lib.hid hm
        have HM' := Lib.hid hm'
        clear hm hm'
        have i1 : (0 : Int) ≤ (k : Int) := by omega
        have i2 : (k : Int) < (A.length : Int) := by omega
        have i3 : (k : Int) < (B.length : Int) := by omega
        by_cases hmn : m = m'
        · have he : (m != m') = false := by simp [hmn]
          have HN2 : Hid (∀ i, i < k + 1 → A.getD i 0 = B.getD i 0) := by
            intro i hi
            rcases Nat.lt_or_ge i k with h1 | h1
            · exact HN.out i h1
            · obtain rfl : i = k := by omega
              rw [HM.out, HM'.out]; exact hmn
          clear hmn
          go_wp2_with fail
          go_quiet (fail)
          have HW2 : Hid (World.drewN wr nq = w.drewN (n0 + nq)) := by show _ = _; rw [HW.out]; simp [World.drewN, Nat.add_assoc]
          go_wp2
          go_roundw
          case rel => exact ⟨k + 1, n0 + nq, by go_num, by omega, HW2.out, HN2⟩
          case measure => simp [intOf]; omega
        · have he : (m != m') = true := by simp [hmn]
          have HR : Hid (eqB A B = false) := by
            show _ = _
            unfold eqB
            simp only [beq_eq_false_iff_ne, ne_eq]
            intro e
            exact hmn (by rw [← HM.out, ← HM'.out, e])
          clear hmn
          go_wp2_with fail
          go_quiet (fail)
          go_wp2
          go_ret
          exact ⟨by rw [HR.out]; rfl, by rw [HW.out]; exact ⟨rfl, rfl, rfl, rfl⟩⟩
      · obtain rfl : k = A.length := by omega
        have HR : Hid (eqB A B = true) := by show _ = _; unfold eqB; rw [eq_lists HL.out HN.out]; simp
        clear hlt hk hll
        go_wp2
        go_ret
        exact ⟨by rw [HR.out]; rfl, by rw [HW.out]; exact Still.drewN _ _⟩
  · have hne : ((A.length : Int) != (B.length : Int)) = true := by simp; omega
    have HR : Hid (eqB A B = false) := by
      show _ = _
      unfold eqB
      simp only [beq_eq_false_iff_ne, ne_eq]
      rintro rfl
      exact hl rfl
    clear hl
    go_enter Try.func23, Try.ntmps23
    go_wp2
    go_ret
    exact ⟨by rw [HR.out]; rfl, Still.refl _⟩

set_option maxHeartbeats 800000 in
theorem same_any (u v : Value) (A B : List Int) (w : World) (h1 : Rd w u A) (h2 : Rd w v B) : Calls Try.prog 16 #[u, v] w fun e w' => e = .returned (.bool (eqB A B)) ∧ Still w w' := by
  obtain ⟨ao, cap, g, off, rfl, hcap, hao, hcell⟩ := h1.open_
  obtain ⟨ao', cap', g', off', rfl, hcap', hao', hcell'⟩ := h2.open_
  have hlm : A.length ≤ 9223372036854775807 := by have := h1.max; unfold maxLen at this; omega
  have hlm' : B.length ≤ 9223372036854775807 := by have := h2.max; unfold maxLen at this; omega
  have HA := Lib.hid hao
  have HC := Lib.hid hcell
  have HA' := Lib.hid hao'
  have HC' := Lib.hid hcell'
  clear hao hcell hcap h1 hao' hcell' hcap' h2
  by_cases hl : A.length = B.length
  · have hne : ((A.length : Int) != (B.length : Int)) = false := by simp [hl]
    have HL := Lib.hid hl
    clear hl
    go_enter Try.func16, Try.ntmps16
    go_wp2
    clear hne
    go_loopw [5] (fun i wr => ∃ k nq : Nat, i = .int .i64 k ∧ k ≤ A.length ∧ wr = w.drewN nq ∧ Hid (∀ i, i < k → A.getD i 0 = B.getD i 0)) (fun i _ => A.length - (intOf i).toNat)
    case atStart => exact ⟨0, 0, rfl, Nat.zero_le _, rfl, fun i hi => by omega⟩
    case round =>
      obtain ⟨k, n0, rfl, hk, hwr, HN⟩ := hrel
      have HW := Lib.hid hwr
      clear hwr
      have hll := HL.out
      by_cases hlt : k < A.length
      · obtain ⟨rfl, hg⟩ := HA.out (by omega)
        obtain ⟨rfl, hg'⟩ := HA'.out (by omega)
        have hlt' : k < B.length := by omega
        clear hll
        have hc : wr.cell? ⟨g, off + k, none⟩ = some (.int .i64 (A.getD k 0)) := by rw [HW.out]; exact HC.out k hlt
        have hc' : wr.cell? ⟨g', off' + k, none⟩ = some (.int .i64 (B.getD k 0)) := by rw [HW.out]; exact HC'.out k hlt'
        obtain ⟨m, hm⟩ : ∃ m, A.getD k 0 = m := ⟨_, rfl⟩
        obtain ⟨m', hm'⟩ : ∃ m', B.getD k 0 = m' := ⟨_, rfl⟩
        rw [hm] at hc
        rw [hm'] at hc'
        have HM := Lib.hid hm
        have HM' := Lib.hid hm'
        clear hm hm'
        have i1 : (0 : Int) ≤ (k : Int) := by omega
        have i2 : (k : Int) < (A.length : Int) := by omega
        have i3 : (k : Int) < (B.length : Int) := by omega
        by_cases hmn : m = m'
        · have he : (m != m') = false := by simp [hmn]
          have HN2 : Hid (∀ i, i < k + 1 → A.getD i 0 = B.getD i 0) := by
            intro i hi
            rcases Nat.lt_or_ge i k with h1 | h1
            · exact HN.out i h1
            · obtain rfl : i = k := by omega
              rw [HM.out, HM'.out]; exact hmn
          clear hmn
          go_wp2_with fail
          go_quiet (fail)
          have HW2 : Hid (World.drewN wr nq = w.drewN (n0 + nq)) := by show _ = _; rw [HW.out]; simp [World.drewN, Nat.add_assoc]
          go_wp2
          go_roundw
          case rel => exact ⟨k + 1, n0 + nq, by go_num, by omega, HW2.out, HN2⟩
          case measure => simp [intOf]; omega
        · have he : (m != m') = true := by simp [hmn]
          have HR : Hid (eqB A B = false) := by
            show _ = _
            unfold eqB
            simp only [beq_eq_false_iff_ne, ne_eq]
            intro e
            exact hmn (by rw [← HM.out, ← HM'.out, e])
          clear hmn
          go_wp2_with fail
          go_quiet (fail)
          go_wp2
          go_ret
          exact ⟨by rw [HR.out]; rfl, by rw [HW.out]; exact ⟨rfl, rfl, rfl, rfl⟩⟩
      · obtain rfl : k = A.length := by omega
        have HR : Hid (eqB A B = true) := by show _ = _; unfold eqB; rw [eq_lists HL.out HN.out]; simp
        clear hlt hk hll
        go_wp2
        go_ret
        exact ⟨by rw [HR.out]; rfl, by rw [HW.out]; exact Still.drewN _ _⟩
  · have hne : ((A.length : Int) != (B.length : Int)) = true := by simp; omega
    have HR : Hid (eqB A B = false) := by
      show _ = _
      unfold eqB
      simp only [beq_eq_false_iff_ne, ne_eq]
      rintro rfl
      exact hl rfl
    clear hl
    go_enter Try.func16, Try.ntmps16
    go_wp2
    go_ret
    exact ⟨by rw [HR.out]; rfl, Still.refl _⟩



/-! ### session -/
/-- The slices of a session lie in blocks from B on. -/
def NewC (B : Nat) (c : Array Value) : Prop := (∀ v, c[1]? = some v → ∀ g, v.ownBlock = some g → B ≤ g) ∧ (∀ v, c[9]? = some v → ∀ g, v.ownBlock = some g → B ≤ g)
theorem Ses.but {w w' : World} {c : Array Value} {F : List Int} {K : List (Int × Bool)} {gr : Bool} {time : Int} {b B : Nat} (h : Ses w c F K gr time) (hn : NewC B c) (hlt : b < B) (hb : But b w w') : Ses w' c F K gr time := by
  obtain ⟨fs, f1, f2⟩ := h.fams
  obtain ⟨ks, k1, k2⟩ := h.kept
  exact ⟨h.size, h.one, ⟨fs, f1, f2.move fun g hg hl => hb.block g hl (fun e => by have := hn.1 fs f1 g hg; omega)⟩, h.hasGR, h.time_, ⟨ks, k1, k2.move fun g hg hl => hb.block g hl (fun e => by have := hn.2 ks k1 g hg; omega)⟩, h.t1, h.t2⟩

set_option maxRecDepth 100000 in
set_option maxHeartbeats 800000 in
theorem session_full (w : World) : Calls Try.prog 22 #[] w fun e w' => ∃ c, e = .returned (.agg c) ∧ Ses w' c [1, 2, 3] [(1, true), (3, false)] true 120 ∧ NewC w.heap.size c ∧ Below w.heap.size w w' := by
  go_enter Try.func22, Try.ntmps22
  go_wp2
  have hb0 : ∀ (A : Array Value) (o1 o2 : Obj), (((w.alloc (.cells A 30)).alloc o1).alloc o2).heap[w.heap.size]? = some (.cells A 30 (0, 0)) := by
    intro A o1 o2
    rw [Below.heap_alloc _ _ _ (by simp; omega), Below.heap_alloc _ _ _ (by simp)]; exact heap_alloc_new _ _
  refine bodyPost_ret (results_cell_row Try.results22 _ _ w.heap.size 30 _ (0, 0) _ rfl (hb0 _ _ _) Try.underlying30 rfl (by kernel_rfl)) rfl ⟨_, rfl, ?_, ⟨fun v hv g hg => ?_, fun v hv g hg => ?_⟩, (((Below.refl _ _).alloc (Nat.le_refl _) _).alloc (by simp) _).alloc (by simp; omega) _⟩
  rotate_left
  · simp at hv; subst hv; simp [Value.ownBlock] at hg; omega
  · simp at hv; subst hv; simp [Value.ownBlock] at hg; omega
  refine ⟨rfl, by simp [Value.oneCell'], ⟨_, rfl, ?_⟩, rfl, rfl, ⟨_, rfl, ?_⟩, by omega, by omega⟩
  · refine ⟨⟨_, 3, rfl, by decide, fun _ => ⟨_, 0, rfl, fun i hi => ?_⟩⟩, by decide⟩
    match i, hi with
    | 0, _ => simp [World.cell?_alloc_at, World.cell?_alloc_past]
    | 1, _ => simp [World.cell?_alloc_at, World.cell?_alloc_past]
    | 2, _ => simp [World.cell?_alloc_at, World.cell?_alloc_past]
  · refine ⟨⟨_, 2, rfl, by decide, fun _ => ⟨_, 0, rfl, fun i hi => ?_⟩⟩, by decide⟩
    match i, hi with
    | 0, _ => simp [World.cell?_alloc_at]
    | 1, _ => simp [World.cell?_alloc_at]
theorem session_any (w : World) : Calls Try.prog 22 #[] w fun e w' => ∃ c, e = .returned (.agg c) ∧ Ses w' c [1, 2, 3] [(1, true), (3, false)] true 120 ∧ Below w.heap.size w w' :=
  (session_full w).mono fun e w' ⟨c, h1, h2, _, h4⟩ => ⟨c, h1, h2, h4⟩
end Go.Proofs.Ytbkgipafikeccaa
