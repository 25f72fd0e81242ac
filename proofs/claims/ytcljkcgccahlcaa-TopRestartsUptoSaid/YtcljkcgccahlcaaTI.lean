/- The sort at a row of places that the call made. -/
import Derived.Test.YtcljkcgccahlcaaTG
namespace Go.Proofs.Ytcljkcgccahlcaa
open Go.RowKit Go.Sort Go.Shelf
set_option linter.unusedVariables false

theorem plC_get : ∀ (L : List Pl) (j : Nat), j < L.length * 5 → (plC L)[j]? = some ((L[j / 5]!).val.toList[j % 5]!)
  | [], j, h => by simp at h
  | p :: L, j, h => by
    have e : plC (p :: L) = p.val.toList ++ plC L := rfl
    have hl : p.val.toList.length = 5 := rfl
    rw [e]
    by_cases h5 : j < 5
    · rw [List.getElem?_append_left (by omega)]
      have h1 : j / 5 = 0 := by omega
      have h2 : j % 5 = j := by omega
      rw [h1, h2]
      simp only [List.getElem!_cons_zero]
      rw [List.getElem?_eq_getElem (by omega), List.getElem!_eq_getElem?_getD, List.getElem?_eq_getElem (by omega)]
      rfl
    · rw [List.getElem?_append_right (by omega), hl, plC_get L (j - 5) (by simp at h; omega)]
      have h1 : j / 5 = (j - 5) / 5 + 1 := by omega
      have h2 : j % 5 = (j - 5) % 5 := by omega
      rw [h1, h2]
      simp only [List.getElem!_cons_succ]

abbrev encPl : Pl → List Value := fun p => p.val.toList
theorem flat_plC (d : Array Pl) : (flatK encPl 5 d).toList = plC d.toList := by
  apply List.ext_getElem?
  intro j
  by_cases h : j < d.size * 5
  · rw [plC_get _ _ (by simpa using h)]
    have hs : j < (flatK encPl 5 d).size := by simpa using h
    have hg := get_flatK encPl 5 d j h
    rw [getElem!_pos (flatK encPl 5 d) j hs] at hg
    rw [Array.getElem?_toList, Array.getElem?_eq_getElem hs, hg]
    congr 2
    simp only [List.getElem!_eq_getElem?_getD, Array.getElem!_eq_getD, Array.getD_eq_getD_getElem?, Array.getElem?_toList]
  · have h1 : (flatK encPl 5 d).toList.length = d.size * 5 := by simp
    have h2 : (plC d.toList).length = d.size * 5 := by rw [plC_len]; simp
    rw [List.getElem?_eq_none (by omega), List.getElem?_eq_none (by omega)]

theorem holds_row {w : World} {g : Nat} {cur : Array Value} (L : List Pl) (hg : w.heap[g]? = some (.cells cur 83 (0, 0))) (ht : cur.toList.take (L.length * 5) = plC L) : HoldsK encPl 5 w g 0 L.toArray := by
  intro j hj
  have hj5 : j < L.length * 5 := by simpa using hj
  refine ⟨?_, frozen_of_row _ _ _ _ _ hg⟩
  rw [cell_of_row _ _ _ _ _ _ hg, Nat.zero_add]
  have h1 : (cur.toList.take (L.length * 5))[j]? = (flatK encPl 5 L.toArray).toList[j]? := by rw [ht, flat_plC]
  rw [List.getElem?_take_of_lt hj5, Array.getElem?_toList, Array.getElem?_toList] at h1
  rw [h1, Array.getElem?_eq_getElem hj, getElem!_pos (flatK encPl 5 L.toArray) j hj]
  rfl

theorem take_putCells (cur : Array Value) (F : Array Value) (h : F.size ≤ cur.size) : (putCells (id : Value → Value) 0 F cur).toList.take F.size = F.toList := by
  apply List.ext_getElem?
  intro j
  by_cases hj : j < F.size
  · rw [List.getElem?_take_of_lt hj, Array.getElem?_toList]
    simp [putCells, hj, show j < cur.size from by omega]
  · rw [List.getElem?_eq_none (by simp; omega), List.getElem?_eq_none (by simp; omega)]

theorem sort_row (v : Value) (L : List Pl) (base : Nat) (W : World) (hrow : W.ownsRow base 83 5 v L.length (plC L)) (hnil : L = [] → v = .slice none 0 0) (hL : L.length < 1000000) (hb : base ≤ W.heap.size) :
    Calls Try.prog 60 #[v, .func (.func 61) #[] #[]] W fun e w' => e = .returned (.tuple #[]) ∧ ∃ L', L.Perm L' ∧ w'.ownsRow base 83 5 v L'.length (plC L') ∧ Below base W w' := by
  rcases hrow.2 with ⟨rfl, h0⟩ | ⟨g, cap, cur, rfl, hbg, hg, hc, hm, hs, ht⟩
  · obtain rfl : L = [] := List.eq_nil_of_length_eq_zero h0
    refine (sort_none _ W).mono ?_
    rintro e w' ⟨rfl, rfl⟩
    exact ⟨rfl, [], List.Perm.refl _, hrow, Below.refl _ _⟩
  · have hcon := sort_some g cap L.toArray W (holds_row L hg ht) (lt_of_block hg) (by simp; omega)
    refine hcon.mono ?_
    rintro e w' ⟨rfl, d', n, os, ⟨hps, _, hpp⟩, rfl⟩
    have hsz : d'.size = L.length := by simpa using hps
    have hp : L.Perm d'.toList := by
      have : (d'.extract 0 L.toArray.size).toList = d'.toList := by simp; exact List.take_of_length_le (by simp [hsz])
      rw [this] at hpp
      simpa using hpp.symm
    have hlen : d'.toList.length = L.length := by simpa using hsz
    have hbl : (sortWorldK encPl 5 W g 0 n d' os).heap[g]? = some (.cells (putCells id 0 (flatK encPl 5 d') cur) 83 (0, 0)) := by
      have hlt := lt_of_block hg
      unfold sortWorldK
      rw [heap_grow_old _ _ (by simpa [putRowK, putRow, mapBlock, Sort.ahead] using hlt)]
      simp [putRowK, putRow, mapBlock, Sort.ahead, Array.getElem?_modify, hg, onCells]
    have hbe : Below base W (sortWorldK encPl 5 W g 0 n d' os) := by
      refine ⟨rfl, rfl, rfl, by simp [sortWorldK, putRowK, putRow, mapBlock, Sort.ahead], fun k hk => ?_⟩
      have hne : g ≠ k := by omega
      unfold sortWorldK
      rw [heap_grow_old _ _ (by simp [putRowK, putRow, mapBlock, Sort.ahead]; omega)]
      simp [putRowK, putRow, mapBlock, Sort.ahead, Array.getElem?_modify, hne]
    refine ⟨rfl, d'.toList, hp, ⟨by rw [plC_len], .inr ⟨g, cap, _, by rw [hlen], hbg, hbl, by rw [hlen]; exact hc, hm, by simp [putCells, hs], ?_⟩⟩, hbe⟩
    have := take_putCells cur (flatK encPl 5 d') (by rw [hs]; simp [hsz]; omega)
    rw [size_flatK] at this
    rw [hlen, ← hsz, this, flat_plC]
end Go.Proofs.Ytcljkcgccahlcaa
