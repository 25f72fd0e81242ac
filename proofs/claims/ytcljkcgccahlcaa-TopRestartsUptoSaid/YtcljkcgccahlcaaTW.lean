/- has30, let. -/
import Derived.Test.YtcljkcgccahlcaaTR
namespace Go.Proofs.Ytcljkcgccahlcaa
open Go.RowKit
set_option linter.unusedVariables false

theorem has30_any (v : Value) (L : List Int) (n : Int) (w : World) (hr : Rd w v L) :
    Calls Try.prog 9 #[v, .int .i64 n] w fun e w' => e = .returned (.bool (decide (n ∈ L))) ∧ w = w' := by
  obtain ⟨ao, cap, g, off, rfl, hcap, hao, hcell⟩ := hr.open_
  have hlm : L.length ≤ 9223372036854775807 := by have := hr.max; unfold maxLen at this; omega
  have HC := Lib.hid hcell
  have HA := Lib.hid hao
  clear hcell hao hr hcap
  go_enter Try.func9, Try.ntmps9
  go_wp2_with fail
  go_loopw [5] (fun i wr => ∃ k : Nat, i = .int .i64 k ∧ k ≤ L.length ∧ w = wr ∧ Hid (n ∉ L.take k)) (fun i _ => L.length - (intOf i).toNat)
  case atStart => exact ⟨0, rfl, Nat.zero_le _, rfl, by show _ ∉ _; simp⟩
  case round =>
    obtain ⟨k, rfl, hk, rfl, hno⟩ := hrel
    by_cases hlt : k < L.length
    · obtain ⟨rfl, hg⟩ := HA.out (by omega)
      have hc := HC.out k hlt
      have hT : Hid (L.take (k + 1) = L.take k ++ [L.getD k 0]) := by
        show _ = _
        rw [List.take_succ_eq_append_getElem hlt]; simp [List.getD_eq_getElem?_getD, List.getElem?_eq_getElem hlt]
      have hmem : Hid (L.getD k 0 ∈ L) := by show _ ∈ _; rw [List.getD_eq_getElem?_getD, List.getElem?_eq_getElem hlt, Option.getD_some]; exact List.getElem_mem hlt
      generalize L.getD k 0 = a at *
      by_cases ha : a = n
      · have hb : ((a : Int) == n) = true := by simp [ha]
        have hyes : Hid (decide (n ∈ L) = true) := by show _ = _; rw [← ha]; simpa using hmem.out
        clear ha
        go_wp2
        go_ret
        exact ⟨by rw [hyes.out]; rfl, rfl⟩
      · have hb : ((a : Int) == n) = false := by simpa using ha
        have hno2 : Hid (n ∉ L.take (k + 1)) := by show _ ∉ _; rw [hT.out]; simp [hno.out]; exact fun e => ha e.symm
        clear ha
        go_wp2
        go_roundw
        case rel => exact ⟨k + 1, by go_num, by omega, by first | exact trivial | rfl, hno2⟩
        case measure => simp [intOf]; omega
    · obtain rfl : k = L.length := by omega
      have hno3 : Hid (decide (n ∈ L) = false) := by show _ = _; have := hno.out; rw [List.take_length] at this; simpa using this
      go_wp2
      go_ret
      exact ⟨by rw [hno3.out]; rfl, rfl⟩

theorem let_any (b m n : Nat) (F : Tbl) (v : Value) (l : List Nat) (w : World) (h : IsRib w b m n F) (hn : n < 100000) (hr : Rd w v (nums l)) (hv : v.ownBlock ≠ some m) :
    Calls Try.prog 17 #[.pointer (some ⟨b, 0, none⟩), v] w fun e w' => e = .returned (.tuple #[]) ∧ IsRib w' b m n (F.sweeps l) ∧ But m w w' := by
  obtain ⟨ao, cap, g, off, rfl, hcap, hao, hcell⟩ := hr.open_
  rw [nums_len] at hcap hao hcell ⊢
  have hlm : l.length ≤ 9223372036854775807 := by have := hr.max; rw [nums_len] at this; unfold maxLen at this; omega
  have hgm : 0 < l.length → g ≠ m := fun hp e => by
    obtain ⟨rfl, _⟩ := hao hp
    exact hv (by simp [Value.ownBlock, e])
  have HG := Lib.hid hgm
  have HC := Lib.hid hcell
  have HA := Lib.hid hao
  clear hcell hao hr hcap hgm hv
  go_enter Try.func17, Try.ntmps17
  go_wp2_with fail
  go_loopw [4] (fun i wr => ∃ k : Nat, i = .int .i64 k ∧ k ≤ l.length ∧ IsRib wr b m n (F.sweeps (l.take k)) ∧ But m w wr) (fun i _ => l.length - (intOf i).toNat)
  case atStart => exact ⟨0, rfl, Nat.zero_le _, by rw [List.take_zero]; exact h, But.refl _ _⟩
  case round =>
    obtain ⟨k, rfl, hk, hR, hbut⟩ := hrel
    clear h
    by_cases hlt : k < l.length
    · obtain ⟨rfl, hg⟩ := HA.out (by omega)
      have hc : wr.cell? ⟨g, off + k, none⟩ = some (.int .i64 (l.getD k 0 : Nat)) := by
        rw [hbut.cell hg (HG.out (by omega)), HC.out k hlt]
        simp [nums, List.getD_eq_getElem?_getD, List.getElem?_eq_getElem hlt]
      have hT : Hid (l.take (k + 1) = l.take k ++ [l.getD k 0]) := by
        show _ = _
        rw [List.take_succ_eq_append_getElem hlt]; simp [List.getD_eq_getElem?_getD, List.getElem?_eq_getElem hlt]
      generalize l.getD k 0 = a at *
      go_wp2_with fail
      refine (sweep_any b m n _ _ wr hR hn).mono ?_
      rintro e w2 ⟨r, L, ys, rfl, _, _, hR2, hb2⟩
      rw [← sweeps_snoc, ← hT.out] at hR2
      have hbutE := hbut.trans hb2
      clear hb2 hR hbut
      go_wp2_with fail
      go_roundw
      case rel => exact ⟨k + 1, by go_num, by omega, hR2, hbutE⟩
      case measure => simp [intOf]; omega
    · obtain rfl : k = l.length := by omega
      rw [List.take_length] at hR
      go_wp2
      go_end0
      exact ⟨rfl, hR, hbut⟩
end Go.Proofs.Ytcljkcgccahlcaa
