/- heraldlaw32.works. -/
import Derived.Test.YtbkgipafikeccaaV
namespace Go.Proofs.Ytbkgipafikeccaa
open Go.RowKit
set_option linter.unusedVariables false

theorem own_rd {w : World} {base : Nat} {v : Value} {p : Nat → Bool} {l : List Nat} (h : w.ownsRow base 3 1 v (famsOf p).length (ints (famsOf p))) (hl : famsOf p = l) : Rd w v (nums l) := by
  rw [← hl]
  exact rd_of_own (base := base) (by rw [nums_ints, nums_len]; exact h) (by have := famsOf_nums_lt p; unfold maxLen; omega)

/-- A slice of constants that has just been made. -/
theorem rd_new (w : World) (A : List Int) (hm : A.length ≤ 5) : Rd (w.alloc (.cells (A.map (Value.int .i64)).toArray 3)) (.slice (some ⟨w.heap.size, 0, none⟩) A.length A.length) A := by
  refine ⟨⟨_, _, rfl, Nat.le_refl _, fun _ => ⟨_, 0, rfl, fun i hi => ?_⟩⟩, by unfold maxLen; omega⟩
  rw [cell_of_row _ _ _ _ _ _ (heap_alloc_new _ _), Nat.zero_add]
  simp [List.getElem?_eq_getElem hi]

theorem rd_nil (w : World) : Rd w (.slice none 0 0) [] := ⟨⟨none, 0, rfl, Nat.le_refl _, fun h => absurd rfl h⟩, Nat.zero_le _⟩

theorem eqB_same (A : List Int) : eqB A A = true := by simp [eqB]
theorem is_yes (v : Value) (A : List Int) (w : World) (h : Rd w v A) (hm : A.length ≤ 5) : Calls Try.prog 23 #[v, .slice (some ⟨w.heap.size, 0, none⟩) A.length A.length] (w.alloc (.cells (A.map (Value.int .i64)).toArray 3)) fun e w' => e = .returned (.bool true) ∧ Below w.heap.size w w' := by
  refine (is_any v _ A A _ (h.below ((Below.refl _ _).alloc (Nat.le_refl _) _)) (rd_new w A hm)).mono ?_
  rintro e w' ⟨rfl, hs⟩
  exact ⟨by rw [eqB_same], ((Below.refl _ _).alloc (Nat.le_refl _) _).trans hs.below⟩
theorem is_none (v : Value) (w : World) (h : Rd w v []) : Calls Try.prog 23 #[v, .slice none 0 0] w fun e w' => e = .returned (.bool true) ∧ Below w.heap.size w w' := by
  refine (is_any v _ [] [] _ h (rd_nil w)).mono ?_
  rintro e w' ⟨rfl, hs⟩
  exact ⟨rfl, hs.below⟩

def Fs : List Int := [1, 2, 3]
def Ks : List (Int × Bool) := [(1, true), (3, false)]
theorem fk1 : famsOf (keepsP Fs Ks true) = [1, 3] := by decide
theorem fk2 : famsOf (goneP nil0 Fs Ks true) = [2] := by decide
theorem fk3 : atV (famsOf (keepsP Fs Ks true)) 120 10 = 130 := by decide
theorem fk4 : famsOf (goneU (keepsP Fs Ks true) Fs Ks true) = [3] := by decide
theorem fk5 : famsOf (dropL (keepsP Fs Ks true) [3]) = [1] := by decide
theorem fk6 : famsOf (upd (dropL (keepsP Fs Ks true) [3]) 1 false) = [] := by decide
theorem fk7 : famsOf (upd (upd (dropL (keepsP Fs Ks true) [3]) 1 false) 1 false) = [] := by decide
theorem fk8 : dropL (keepsP Fs Ks true) [3] 1 = true := by decide
theorem fk9 : upd (dropL (keepsP Fs Ks true) [3]) 1 false 1 = false := by decide

set_option maxHeartbeats 4000000 in
set_option maxRecDepth 100000 in
theorem works_any (w : World) : Calls Try.prog 7 #[] w fun e w' => e = .returned (.bool true) ∧ Below w.heap.size w w' := by
  go_enter Try.func7, Try.ntmps7
  go_wp2_with fail
  refine (new_any _).mono ?_
  rintro e w1 ⟨rfl, hw1⟩
  have hh : IsH w1 w.heap.size nil0 0 := hw1 ▸ isH_new w
  have hbel : Below w.heap.size w w1 := hw1 ▸ (Below.refl _ _).alloc (Nat.le_refl _) _
  clear hw1
  go_wp2_with fail
  refine (session_any _).mono ?_
  rintro e w2 ⟨c, rfl, hs, hb2⟩
  replace hh : IsH w2 w.heap.size nil0 0 := hh.keep (hb2.block _ hh.lt)
  replace hbel := hbel.trans (hb2.mono hbel.size)
  clear hb2
  go_wp2_with fail
  refine (down_any w.heap.size nil0 0 c Fs Ks true 120 10 _ hh hs (by omega) (by omega)).mono ?_
  rintro e w3 ⟨vk, vg, rfl, hk, hg, hh3, hb3⟩
  rw [fk3] at hh3 ⊢
  have rk := own_rd hk fk1
  have rg := own_rd hg fk2
  replace hbel := hbel.trans (hb3.below (Nat.le_refl _) hbel.size)
  clear hk hg hb3 hh hs
  go_wp2_with fail
  refine (is_yes vk [1, 3] _ rk (by decide)).mono ?_
  rintro e w4 ⟨rfl, hb⟩
  replace rg := rg.below hb
  replace hh3 := hh3.keep (hb.block _ hh3.lt)
  replace hbel := hbel.trans (hb.mono hbel.size)
  clear hb rk
  go_wp2_with fail
  refine (is_yes vg [2] _ rg (by decide)).mono ?_
  rintro e w5 ⟨rfl, hb⟩
  replace hh3 := hh3.keep (hb.block _ hh3.lt)
  replace hbel := hbel.trans (hb.mono hbel.size)
  clear hb rg
  go_wp2_with fail
  refine (stale_any _ _ _ _ hh3).mono ?_
  rintro e w6 ⟨v, rfl, hn⟩
  have rv := own_rd hn.1 fk1
  replace hh3 := hh3.keep (hn.2.block _ hh3.lt)
  replace hbel := hbel.trans (hn.2.mono hbel.size)
  clear hn
  go_wp2_with fail
  refine (is_yes v [1, 3] _ rv (by decide)).mono ?_
  rintro e w7 ⟨rfl, hb⟩
  replace hh3 := hh3.keep (hb.block _ hh3.lt)
  replace hbel := hbel.trans (hb.mono hbel.size)
  clear hb rv
  go_wp2_with fail
  refine (session_any _).mono ?_
  rintro e w8 ⟨c2, rfl, hs, hb⟩
  replace hh3 := hh3.keep (hb.block _ hh3.lt)
  replace hbel := hbel.trans (hb.mono hbel.size)
  clear hb
  go_wp2_with fail
  refine (up_any w.heap.size (keepsP Fs Ks true) 130 _ c2 true Fs Ks true 120 _ hh3 hs rfl).mono ?_
  rintro e w9 ⟨v, rfl, ho, hh4, hb⟩
  have rv := own_rd ho fk4
  rw [fk4] at hh4
  replace hbel := hbel.trans (hb.below (Nat.le_refl _) hbel.size)
  clear ho hb hh3 hs
  go_wp2_with fail
  refine (is_yes v [3] _ rv (by decide)).mono ?_
  rintro e w10 ⟨rfl, hb⟩
  replace hh4 := hh4.keep (hb.block _ hh4.lt)
  replace hbel := hbel.trans (hb.mono hbel.size)
  clear hb rv
  go_wp2_with fail
  refine (stale_any _ _ _ _ hh4).mono ?_
  rintro e w11 ⟨v, rfl, hn⟩
  have rv := own_rd hn.1 fk5
  replace hh4 := hh4.keep (hn.2.block _ hh4.lt)
  replace hbel := hbel.trans (hn.2.mono hbel.size)
  clear hn
  go_wp2_with fail
  refine (is_yes v [1] _ rv (by decide)).mono ?_
  rintro e w12 ⟨rfl, hb⟩
  replace hh4 := hh4.keep (hb.block _ hh4.lt)
  replace hbel := hbel.trans (hb.mono hbel.size)
  clear hb rv
  go_wp2_with fail
  refine (end_in _ 1 _ _ (by omega) (by omega) _ hh4).mono ?_
  rw [fk8]
  rintro e w13 ⟨rfl, hh5, hb⟩
  replace hbel := hbel.trans (hb.below (Nat.le_refl _) hbel.size)
  clear hb hh4
  go_wp2_with fail
  refine (end_in _ 1 _ _ (by omega) (by omega) _ hh5).mono ?_
  rw [fk9]
  rintro e w14 ⟨rfl, hh6, hb⟩
  replace hbel := hbel.trans (hb.below (Nat.le_refl _) hbel.size)
  clear hb hh5
  go_wp2_with fail
  refine (stale_any _ _ _ _ hh6).mono ?_
  rintro e w15 ⟨v, rfl, hn⟩
  have rv := own_rd hn.1 fk7
  replace hbel := hbel.trans (hn.2.mono hbel.size)
  clear hn hh6
  go_wp2_with fail
  refine (is_none v _ rv).mono ?_
  rintro e w16 ⟨rfl, hb⟩
  replace hbel := hbel.trans (hb.mono hbel.size)
  clear hb rv
  go_wp2_with fail
  go_ret
  exact ⟨rfl, hbel⟩
end Go.Proofs.Ytbkgipafikeccaa
