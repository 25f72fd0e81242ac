/- prim.Check, joined; nlri.Check. -/
import Derived.Test.YtcljkcgccahlcaaTM4
import Derived.Test.YtcljkcgccahlcaaTM6
namespace Go.Proofs.Ytcljkcgccahlcaa
open Go.RowKit
set_option linter.unusedVariables false

def errP (b : Bool) : Int := if b then 0 else 2

theorem pcheck_any (p : Pl) (w : World) : Calls Try.prog 40 #[.agg p.pre] w fun e w' => e = .returned (.int .i64 (errP (chkP p))) ∧ Below w.heap.size w w' := by
  have hsi := size_any p.fam
  by_cases h0 : sizeP p.fam = 0
  · have : chkP p = false := by simp [chkP, h0]
    rw [this]
    rw [h0] at hsi
    exact pc_n0 p w hsi
  have hf0 : p.fam ≠ 0 := by rintro e; apply h0; rw [e]; rfl
  have hsz : sizeP p.fam = 4 ∨ sizeP p.fam = 16 := by unfold sizeP at h0 ⊢; split <;> (try split) <;> simp_all
  have hap := apart_any p.fam
  have hma : ∀ (h1 : p.addr.size = 4 ∨ p.addr.size = 16) (h2 : 0 ≤ p.len) (h3 : p.len ≤ 128) w, Calls Try.prog 64 #[.string p.addr, .int .i64 p.len] w fun e w' => e = .returned (.string (maskS p.addr p.len)) ∧ Below w.heap.size w w' := fun h1 h2 h3 w => masked_any p.addr p.len (by omega) (by omega) h2 h3 w
  unfold chkP
  generalize maskS p.addr p.len = r at *
  generalize apartP p.fam = ap at *
  rcases hsz with hsz | hsz
  · rw [hsz] at hsi ⊢
    by_cases h1 : p.addr.size = 4
    · have b1 : ((p.addr.size : Int) != 4) = false := by simp; omega
      by_cases h2 : p.len < 0
      · have e : decide ((4 : Nat) ≠ 0 ∧ p.addr.size = 4 ∧ 0 ≤ p.len ∧ p.len ≤ 8 * ((4 : Nat) : Int)) = false := by simp; omega
        rw [e]
        exact pc_n2_4 p w hf0 hsi b1 (by simpa using h2)
      · have b2 : decide (p.len < 0) = false := by simpa using h2
        by_cases h3 : (32 : Int) < p.len
        · have e : decide ((4 : Nat) ≠ 0 ∧ p.addr.size = 4 ∧ 0 ≤ p.len ∧ p.len ≤ 8 * ((4 : Nat) : Int)) = false := by simp; omega
          rw [e]
          exact pc_n3_4 p w hf0 hsi b1 b2 (by simpa using h3)
        · have b3 : decide ((32 : Int) < p.len) = false := by simpa using h3
          have e : decide ((4 : Nat) ≠ 0 ∧ p.addr.size = 4 ∧ 0 ≤ p.len ∧ p.len ≤ 8 * ((4 : Nat) : Int)) = true := by simp; omega
          rw [e]
          have hm := hma (.inl h1) (by omega) (by omega)
          cases hr : p.rd == 0 with
          | true =>
            have b4 : ((p.rd : Int) != 0) = false := by simp at hr; simp [hr]
            cases hq : r.toList == p.addr.toList with
            | true => exact pc_y0_4 p w hf0 hsi b1 b2 b3 b4 r hm hq
            | false => exact pc_n5_4 p w hf0 hsi b1 b2 b3 b4 r hm hq
          | false =>
            have b4 : ((p.rd : Int) != 0) = true := by simp at hr; simp [hr]
            cases ap with
            | false => exact pc_n4_4 p w hf0 hsi b1 b2 b3 b4 hap
            | true =>
              cases hq : r.toList == p.addr.toList with
              | true => exact pc_y1_4 p w hf0 hsi b1 b2 b3 b4 r hm hq hap
              | false => exact pc_n6_4 p w hf0 hsi b1 b2 b3 b4 r hm hq hap
    · have e : decide ((4 : Nat) ≠ 0 ∧ p.addr.size = 4 ∧ 0 ≤ p.len ∧ p.len ≤ 8 * ((4 : Nat) : Int)) = false := by simp; omega
      rw [e]
      exact pc_n1_4 p w hf0 hsi (by simp; omega)
  · rw [hsz] at hsi ⊢
    by_cases h1 : p.addr.size = 16
    · have b1 : ((p.addr.size : Int) != 16) = false := by simp; omega
      by_cases h2 : p.len < 0
      · have e : decide ((16 : Nat) ≠ 0 ∧ p.addr.size = 16 ∧ 0 ≤ p.len ∧ p.len ≤ 8 * ((16 : Nat) : Int)) = false := by simp; omega
        rw [e]
        exact pc_n2_16 p w hf0 hsi b1 (by simpa using h2)
      · have b2 : decide (p.len < 0) = false := by simpa using h2
        by_cases h3 : (128 : Int) < p.len
        · have e : decide ((16 : Nat) ≠ 0 ∧ p.addr.size = 16 ∧ 0 ≤ p.len ∧ p.len ≤ 8 * ((16 : Nat) : Int)) = false := by simp; omega
          rw [e]
          exact pc_n3_16 p w hf0 hsi b1 b2 (by simpa using h3)
        · have b3 : decide ((128 : Int) < p.len) = false := by simpa using h3
          have e : decide ((16 : Nat) ≠ 0 ∧ p.addr.size = 16 ∧ 0 ≤ p.len ∧ p.len ≤ 8 * ((16 : Nat) : Int)) = true := by simp; omega
          rw [e]
          have hm := hma (.inr h1) (by omega) (by omega)
          cases hr : p.rd == 0 with
          | true =>
            have b4 : ((p.rd : Int) != 0) = false := by simp at hr; simp [hr]
            cases hq : r.toList == p.addr.toList with
            | true => exact pc_y0_16 p w hf0 hsi b1 b2 b3 b4 r hm hq
            | false => exact pc_n5_16 p w hf0 hsi b1 b2 b3 b4 r hm hq
          | false =>
            have b4 : ((p.rd : Int) != 0) = true := by simp at hr; simp [hr]
            cases ap with
            | false => exact pc_n4_16 p w hf0 hsi b1 b2 b3 b4 hap
            | true =>
              cases hq : r.toList == p.addr.toList with
              | true => exact pc_y1_16 p w hf0 hsi b1 b2 b3 b4 r hm hq hap
              | false => exact pc_n6_16 p w hf0 hsi b1 b2 b3 b4 r hm hq hap
    · have e : decide ((16 : Nat) ≠ 0 ∧ p.addr.size = 16 ∧ 0 ≤ p.len ∧ p.len ≤ 8 * ((16 : Nat) : Int)) = false := by simp; omega
      rw [e]
      exact pc_n1_16 p w hf0 hsi (by simp; omega)

/-- What is told: a place, and a label. -/
def nlC (p : Pl) (label : Int) : Array Value := #[.int .i64 p.fam, .int .u64 p.rd, .string p.addr, .int .i64 p.len, .int .u32 p.id, .int .u32 label]
def chkN (p : Pl) (label : Int) : Bool := chkP p && (decide (label ≤ 1048575) && (decide (label ≤ 0) || labB p.fam))
theorem chkN_fam {p : Pl} {label : Int} (h : chkN p label = true) : 1 ≤ p.fam ∧ p.fam ≤ 5 := by
  unfold chkN chkP at h
  simp only [Bool.and_eq_true, decide_eq_true_eq] at h
  have h0 := h.1.1.1
  rcases fam_cases p.fam with e | e | e | e | e | ⟨h1, h2, h3, h4, h5⟩
  · omega
  · omega
  · omega
  · omega
  · omega
  · exact absurd (by simp [sizeP, h1, h2, h3, h4, h5]) h0

set_option maxRecDepth 100000 in
set_option maxHeartbeats 4000000 in
theorem ncheck_any (p : Pl) (label : Int) (w : World) : Calls Try.prog 19 #[.agg (nlC p label)] w fun e w' => e = .returned (.int .i64 (errP (chkN p label))) ∧ Below w.heap.size w w' := by
  have hp : ∀ w, Calls Try.prog 40 #[.agg #[.int .i64 p.fam, .int .u64 p.rd, .string p.addr, .int .i64 p.len]] w fun e w' => e = .returned (.int .i64 (errP (chkP p))) ∧ Below w.heap.size w w' := pcheck_any p
  have HP := Lib.hid hp
  have HL : Hid (∀ w, Calls Try.prog 41 #[.int .i64 p.fam] w fun e w' => e = .returned (.bool (labB p.fam)) ∧ w = w') := lab_any p.fam
  clear hp
  unfold chkN nlC
  generalize chkP p = cp at *
  generalize labB p.fam = lb at *
  have hcell : ∀ w1, Below (w.heap.size + 1) (w.alloc (.cells #[.int .i64 p.fam, .int .u64 p.rd, .string p.addr, .int .i64 p.len, .int .u32 p.id, .int .u32 label] 41)) w1 → w1.cell? ⟨w.heap.size, 0, none⟩ = some (.int .i64 p.fam) ∧ w1.cell? ⟨w.heap.size, 5, none⟩ = some (.int .u32 label) := fun w1 hb => ⟨by rw [hb.cell (by simp)]; simp, by rw [hb.cell (by simp)]; simp⟩
  have HC := Lib.hid hcell
  clear hcell
  cases cp with
  | false =>
    go_enter Try.func19, Try.ntmps19
    go_wp2_with fail
    refine (HP.out _).mono ?_
    rintro e w1 ⟨rfl, hb⟩
    simp only [World.size_alloc] at hb
    obtain ⟨hc, hc5⟩ := HC.out w1 hb
    have hbel : Below w.heap.size w w1 := ((Below.refl _ _).alloc (Nat.le_refl _) _).trans (hb.mono (by omega))
    clear hb
    go_wp2
    go_ret
    exact ⟨rfl, hbel⟩
  | true =>
    by_cases h1 : label ≤ 1048575
    · have b1 : decide ((1048575 : Int) < label) = false := by simp; omega
      by_cases h2 : label ≤ 0
      · have b2 : decide ((0 : Int) < label) = false := by simp; omega
        have hr : Hid (errP (true && (decide (label ≤ 1048575) && (decide (label ≤ 0) || lb))) = 0) := by show _ = _; simp [errP, h1, h2]
        clear h1 h2
        go_enter Try.func19, Try.ntmps19
        go_wp2_with fail
        refine (HP.out _).mono ?_
        rintro e w1 ⟨rfl, hb⟩
        simp only [World.size_alloc] at hb
        obtain ⟨hc, hc5⟩ := HC.out w1 hb
        have hbel : Below w.heap.size w w1 := ((Below.refl _ _).alloc (Nat.le_refl _) _).trans (hb.mono (by omega))
        clear hb
        go_wp2
        go_ret
        exact ⟨by rw [hr.out]; rfl, hbel⟩
      · have b2 : decide ((0 : Int) < label) = true := by simp; omega
        have hr : Hid (errP (true && (decide (label ≤ 1048575) && (decide (label ≤ 0) || lb))) = errP lb) := by show _ = _; simp [h1, h2]
        clear h1 h2
        cases lb
        all_goals
          go_enter Try.func19, Try.ntmps19
          go_wp2_with fail
          refine (HP.out _).mono ?_
          rintro e w1 ⟨rfl, hb⟩
          simp only [World.size_alloc] at hb
          obtain ⟨hc, hc5⟩ := HC.out w1 hb
          have hbel : Below w.heap.size w w1 := ((Below.refl _ _).alloc (Nat.le_refl _) _).trans (hb.mono (by omega))
          clear hb
          go_wp2_with (go_at_call 41; refine (HL.out _).mono ?_; rintro e w' ⟨rfl, rfl⟩)
          go_ret
          exact ⟨by rw [hr.out]; rfl, hbel⟩
    · have b1 : decide ((1048575 : Int) < label) = true := by simp; omega
      have hr : Hid (errP (true && (decide (label ≤ 1048575) && (decide (label ≤ 0) || lb))) = 2) := by show _ = _; simp [errP, h1]
      clear h1
      go_enter Try.func19, Try.ntmps19
      go_wp2_with fail
      refine (HP.out _).mono ?_
      rintro e w1 ⟨rfl, hb⟩
      simp only [World.size_alloc] at hb
      obtain ⟨hc, hc5⟩ := HC.out w1 hb
      have hbel : Below w.heap.size w w1 := ((Below.refl _ _).alloc (Nat.le_refl _) _).trans (hb.mono (by omega))
      clear hb
      go_wp2
      go_ret
      exact ⟨by rw [hr.out]; rfl, hbel⟩
end Go.Proofs.Ytcljkcgccahlcaa
