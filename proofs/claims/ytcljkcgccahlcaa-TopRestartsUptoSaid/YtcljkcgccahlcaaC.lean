/- gr: Stale, drop, End, Fire. -/
import Derived.Test.YtcljkcgccahlcaaB
namespace Go.Proofs.Ytcljkcgccahlcaa
open Go.RowKit
set_option linter.unusedVariables false

/-- A slice that reads as the numbers L. -/
structure Rd (w : World) (v : Value) (L : List Int) : Prop where
  form : ∃ ao cap, v = .slice ao L.length cap ∧ L.length ≤ cap ∧ (L ≠ [] → ∃ g off, ao = some ⟨g, off, none⟩ ∧ ∀ i (h : i < L.length), w.cell? ⟨g, off + i, none⟩ = some (.int .i64 L[i]))
  max : L.length ≤ maxLen

/-- The same, taken apart for a walk. -/
theorem Rd.open_ {w : World} {v : Value} {L : List Int} (h : Rd w v L) : ∃ ao cap g off, v = .slice ao L.length cap ∧ L.length ≤ cap ∧ (0 < L.length → ao = some ⟨g, off, none⟩ ∧ g < w.heap.size) ∧ ∀ i, i < L.length → w.cell? ⟨g, off + i, none⟩ = some (.int .i64 (L.getD i 0)) := by
  obtain ⟨⟨ao, cap, rfl, hc, hl⟩, _⟩ := h
  by_cases hL : L = []
  · exact ⟨ao, cap, 0, 0, rfl, hc, fun h => by simp [hL] at h, fun i hi => by simp [hL] at hi⟩
  · obtain ⟨g, off, rfl, hat⟩ := hl hL
    have hpos : 0 < L.length := List.length_pos_iff.2 hL
    refine ⟨_, cap, g, off, rfl, hc, fun _ => ⟨rfl, ?_⟩, fun i hi => ?_⟩
    · have := World.block_lt_of_cell? _ _ (hat 0 hpos); simpa using this
    · rw [hat i hi]; simp [List.getD_eq_getElem?_getD, List.getElem?_eq_getElem hi]

theorem Rd.move {w w' : World} {v : Value} {L : List Int} (h : Rd w v L) (hk : ∀ g, v.ownBlock = some g → g < w.heap.size → w'.heap[g]? = w.heap[g]?) : Rd w' v L := by
  obtain ⟨⟨ao, cap, rfl, hc, hl⟩, hm⟩ := h
  refine ⟨⟨ao, cap, rfl, hc, fun hL => ?_⟩, hm⟩
  obtain ⟨g, off, rfl, hat⟩ := hl hL
  refine ⟨g, off, rfl, fun i hi => ?_⟩
  rw [← hat i hi]
  exact World.cell?_of_block (w := w) (hk g rfl (by have := World.block_lt_of_cell? _ _ (hat i hi); simpa using this))

theorem Rd.below {w w' : World} {v : Value} {L : List Int} (h : Rd w v L) (hb : Below w.heap.size w w') : Rd w' v L := h.move fun g _ hg => hb.block g hg

/-- Families as numbers. -/
def nums (l : List Nat) : List Int := l.map fun (i : Nat) => (i : Int)
theorem nums_len (l : List Nat) : (nums l).length = l.length := by simp [nums]
theorem nums_ints (l : List Nat) : (nums l).map (Value.int .i64) = ints l := by simp [nums, ints]

theorem rd_of_own {w : World} {base : Nat} {v : Value} {L : List Int} (h : w.ownsRow base 3 1 v L.length (L.map (Value.int .i64))) (hL : L.length ≤ maxLen) : Rd w v L := by
  refine ⟨?_, hL⟩
  rcases h.2 with ⟨rfl, h0⟩ | ⟨g, cap, cur, rfl, hb, hg, hc, hm, hs, ht⟩
  · have : L = [] := List.eq_nil_of_length_eq_zero h0
    subst this
    exact ⟨none, 0, rfl, Nat.le_refl _, fun h => absurd rfl h⟩
  · refine ⟨_, cap, rfl, hc, fun _ => ⟨g, 0, rfl, fun i hi => ?_⟩⟩
    rw [cell_of_row _ _ _ _ _ _ hg, Nat.zero_add]
    have e : (cur.toList.take (L.length * 1))[i]? = (L.map (Value.int .i64))[i]? := by rw [ht]
    rw [List.getElem?_take_of_lt (by omega)] at e
    simp only [Array.getElem?_toList] at e
    rw [e, List.getElem?_map, List.getElem?_eq_getElem hi]; rfl

theorem own_keep {w w' : World} {base e size n : Nat} {v : Value} {xs : List Value} (h : w.ownsRow base e size v n xs) (hk : ∀ g, v.ownBlock = some g → w'.heap[g]? = w.heap[g]?) : w'.ownsRow base e size v n xs := by
  refine ⟨h.1, ?_⟩
  rcases h.2 with h0 | ⟨g, cap, cur, rfl, hb, hg, r⟩
  · exact .inl h0
  · exact .inr ⟨g, cap, cur, rfl, hb, (hk g rfl).trans hg, r⟩
theorem own_mono {w : World} {base base' e size n : Nat} {v : Value} {xs : List Value} (h : w.ownsRow base e size v n xs) (hb : base' ≤ base) : w.ownsRow base' e size v n xs := by
  refine ⟨h.1, ?_⟩
  rcases h.2 with h0 | ⟨g, cap, cur, rfl, hg, r⟩
  · exact .inl h0
  · exact .inr ⟨g, cap, cur, rfl, by omega, r⟩

theorem famsOf_len (p : Nat → Bool) : (famsOf p).length ≤ 6 := famsTo_le p 6
theorem NewRow.rd {w w' : World} {v : Value} {p : Nat → Bool} (h : NewRow w w' v (famsOf p)) : Rd w' v (nums (famsOf p)) :=
  rd_of_own (base := w.heap.size) (by rw [nums_ints, nums_len]; exact h.1) (by have := famsOf_len p; rw [nums_len]; unfold maxLen; omega)

/-! ### Stale -/
theorem stale1_any (st : Nat → Bool) (e : Int) (x b : Nat) (i : Nat) (h1 : 1 ≤ i) (h5 : i ≤ 5) (w : World) (hx : w.cell? ⟨x, 0, none⟩ = some (.pointer (some ⟨b, 0, none⟩))) (hs : w.cell? ⟨b, 1 + i, none⟩ = some (.bool (st i))) :
    Calls Try.prog 38 #[.int .i64 (i : Int), .pointer (some ⟨x, 0, none⟩)] w fun e w' => e = .returned (.bool (st i)) ∧ w = w' := by
  go_enter Try.func38, Try.ntmps38
  go_wp2
  go_ret
  exact ⟨rfl, rfl⟩

theorem stale_any (b : Nat) (st : Nat → Bool) (e : Int) (w : World) (h : IsH w b st e) :
    Calls Try.prog 16 #[.pointer (some ⟨b, 0, none⟩)] w fun r w' => ∃ v, r = .returned v ∧ NewRow w w' v (famsOf st) := by
  have h0 := h.there
  have hlt := h.lt
  have HT : Hid (Tells (w.alloc (.cells #[.pointer (some ⟨b, 0, none⟩)] 31)) 38 (fun i => #[i, .pointer (some ⟨w.heap.size, 0, none⟩)]) st) := by
    intro i h1 h5 w' hb
    refine stale1_any st e w.heap.size b i h1 h5 w' ?_ ?_
    · rw [hb.cell (by simp)]; simp
    · rw [hb.cell (by simp; omega), World.cell?_alloc_lt _ _ _ (by simpa using hlt)]; exact h.at_ (by omega)
  clear h
  go_enter Try.func16, Try.ntmps16
  go_wp2_with fail
  refine (none_no b _ (by rw [World.cell?_alloc_lt _ _ _ (by simpa using hlt)]; exact h0)).mono ?_
  rintro e w' ⟨rfl, rfl⟩
  go_wp2_with fail
  refine (list_Stale _ st _ HT.out).mono ?_
  rintro e w2 ⟨v, rfl, hn⟩
  have hr : NewRow w w2 v (famsOf st) := ⟨own_mono hn.1 (by simp), ((Below.refl _ _).alloc (Nat.le_refl _) _).trans (hn.2.mono (by simp))⟩
  clear hn HT
  go_wp2_with fail
  go_ret
  exact ⟨_, rfl, hr⟩

/-! ### drop -/
def dropL (st : Nat → Bool) (l : List Nat) : Nat → Bool := fun i => st i && !(l.contains i)
theorem dropL_nil (st : Nat → Bool) : dropL st [] = st := by funext i; simp [dropL]
theorem dropL_snoc (st : Nat → Bool) (l : List Nat) (a : Nat) : upd (dropL st l) a false = dropL st (l ++ [a]) := by
  funext i
  unfold upd dropL
  by_cases h : i = a
  · subst h; simp
  · simp [h]

set_option maxRecDepth 100000 in
theorem drop_any (b : Nat) (st : Nat → Bool) (e : Int) (v : Value) (l : List Nat) (hl : ∀ i ∈ l, i < 6) (w : World) (h : IsH w b st e) (hr : Rd w v (nums l)) (hv : v.ownBlock ≠ some b) :
    Calls Try.prog 37 #[.pointer (some ⟨b, 0, none⟩), v] w fun r w' => r = .returned v ∧ IsH w' b (dropL st l) e ∧ But b w w' := by
  obtain ⟨ao, cap, g, off, rfl, hcap, hao, hcell⟩ := hr.open_
  rw [nums_len] at hcap hao hcell ⊢
  have hlm : l.length ≤ 9223372036854775807 := by have := hr.max; rw [nums_len] at this; unfold maxLen at this; omega
  have HC := Lib.hid hcell
  have HA := Lib.hid hao
  have HL := Lib.hid hl
  have HV : Hid (0 < l.length → g ≠ b) := by
    intro h0 hgb
    obtain ⟨rfl, _⟩ := hao h0
    exact hv (by simp [Value.ownBlock, hgb])
  clear hcell hao hl hr hv hcap
  go_enter Try.func37, Try.ntmps37
  go_wp2_with fail
  go_loopw [9] (fun i wr => ∃ k : Nat, i = .int .i64 k ∧ k ≤ l.length ∧ IsH wr b (dropL st (l.take k)) e ∧ But b w wr) (fun i _ => l.length - (intOf i).toNat)
  case atStart => exact ⟨0, rfl, Nat.zero_le _, by rw [List.take_zero, dropL_nil]; exact h, But.refl _ _⟩
  case round =>
    obtain ⟨k, rfl, hk, hh, hbut⟩ := hrel
    clear h
    by_cases hlt : k < l.length
    · obtain ⟨rfl, hg⟩ := HA.out (by omega)
      have hc : wr.cell? ⟨g, off + k, none⟩ = some (.int .i64 ((l[k] : Nat) : Int)) := by
        rw [hbut.cell hg (HV.out (by omega)), HC.out k hlt]
        simp [nums, List.getD_eq_getElem?_getD, List.getElem?_eq_getElem hlt]
      have h6 := HL.out l[k] (List.getElem_mem hlt)
      have hst := hh.at_ h6
      have hfz := hh.free (1 + l[k])
      have hnew : IsH (wr.setCell ⟨b, 1 + l[k], none⟩ (.bool false)) b (dropL st (l.take (k + 1))) e := by
        rw [List.take_succ_eq_append_getElem hlt, ← dropL_snoc]
        exact hh.set h6 false
      have hbut2 := hbut.setCell (1 + l[k]) (.bool false)
      clear hh hbut
      obtain ⟨a, ha⟩ : ∃ a, l[k] = a := ⟨_, rfl⟩
      rw [ha] at hc h6 hst hfz hnew hbut2
      clear ha
      go_wp2
      go_roundw
      case rel => exact ⟨k + 1, by go_num, by omega, hnew, hbut2⟩
      case measure => simp [intOf]; omega
    · obtain rfl : k = l.length := by omega
      rw [List.take_length] at hh
      clear hlt hk
      go_wp2
      go_ret
      exact ⟨rfl, hh, hbut⟩

/-! ### End -/
set_option maxHeartbeats 400000 in
theorem end_out (b : Nat) (n : Int) (hn : inB n = false) (w : World) (h0 : w.cell? ⟨b, 0, none⟩ = some (.bool true)) :
    Calls Try.prog 20 #[.pointer (some ⟨b, 0, none⟩), .int .i64 n] w fun r w' => r = .returned (.bool false) ∧ w = w' := by
  go_enter Try.func20, Try.ntmps20
  go_wp2_with fail
  refine (none_no b _ h0).mono ?_
  rintro e w' ⟨rfl, rfl⟩
  go_wp2_with fail
  refine (in_any n _).mono ?_
  rw [hn]
  rintro e w' ⟨rfl, rfl⟩
  go_wp2_with fail
  go_ret
  exact ⟨rfl, rfl⟩

set_option maxHeartbeats 400000 in
theorem end_in (b : Nat) (i : Nat) (st : Nat → Bool) (e : Int) (h1 : 1 ≤ i) (h5 : i ≤ 5) (w : World) (h : IsH w b st e) :
    Calls Try.prog 20 #[.pointer (some ⟨b, 0, none⟩), .int .i64 (i : Int)] w fun r w' => r = .returned (.bool (st i)) ∧ IsH w' b (upd st i false) e ∧ But b w w' := by
  have hn : Hid (inB (i : Int) = true) := by show _ = _; simp [inB]; omega
  have h0 := h.there
  have hst := h.at_ (i := i) (by omega)
  have hfz := h.free (1 + i)
  have hnew := h.set (i := i) (by omega) false
  have hbut := (But.refl b w).setCell (1 + i) (.bool false)
  clear h
  go_enter Try.func20, Try.ntmps20
  go_wp2_with fail
  refine (none_no b _ h0).mono ?_
  rintro e w' ⟨rfl, rfl⟩
  go_wp2_with fail
  refine (in_any (i : Int) _).mono ?_
  rw [hn.out]
  rintro e w' ⟨rfl, rfl⟩
  go_wp2_with fail
  go_ret
  exact ⟨rfl, hnew, hbut⟩

/-! ### Fire -/
set_option maxHeartbeats 400000 in
theorem fire_before (b : Nat) (now : Int) (st : Nat → Bool) (e : Int) (hlt : now < e) (w : World) (h : IsH w b st e) :
    Calls Try.prog 15 #[.pointer (some ⟨b, 0, none⟩), .int .u64 now] w fun r w' => r = .returned (.slice none 0 0) ∧ w = w' := by
  have h0 := h.there
  have h7 := h.end_
  clear h
  go_enter Try.func15, Try.ntmps15
  go_wp2_with fail
  refine (none_no b _ h0).mono ?_
  rintro e w' ⟨rfl, rfl⟩
  go_wp2_with fail
  go_ret
  exact ⟨rfl, rfl⟩

theorem famsOf_lt (p : Nat → Bool) : ∀ i ∈ famsOf p, i < 6 := fun i hi => by have := (mem_famsOf.1 hi).1; omega

set_option maxHeartbeats 400000 in
theorem fire_behind (b : Nat) (now : Int) (st : Nat → Bool) (e : Int) (hge : e ≤ now) (w : World) (h : IsH w b st e) :
    Calls Try.prog 15 #[.pointer (some ⟨b, 0, none⟩), .int .u64 now] w fun r w' => ∃ v, r = .returned v ∧ w'.ownsRow w.heap.size 3 1 v (famsOf st).length (ints (famsOf st)) ∧ IsH w' b (dropL st (famsOf st)) e ∧ But b w w' := by
  have h0 := h.there
  have h7 := h.end_
  go_enter Try.func15, Try.ntmps15
  go_wp2_with fail
  refine (none_no b _ h0).mono ?_
  rintro e w' ⟨rfl, rfl⟩
  go_wp2_with fail
  refine (stale_any b st _ _ h).mono ?_
  rintro r w2 ⟨v, rfl, hn⟩
  have hlt := h.lt
  have hvb : v.ownBlock ≠ some b := fun hb => by have := own_ge hn.1 b hb; omega
  go_wp2_with fail
  refine (drop_any b st _ v (famsOf st) (famsOf_lt st) _ (h.keep (hn.2.block _ hlt)) hn.rd hvb).mono ?_
  rintro r w3 ⟨rfl, hh, hb3⟩
  have hown : w3.ownsRow w.heap.size 3 1 v (famsOf st).length (ints (famsOf st)) := own_keep hn.1 fun g hg => hb3.block g (by
    rcases hn.1.2 with ⟨rfl, _⟩ | ⟨g', cap, cur, rfl, _, hg', _⟩
    · cases hg
    · simp [Value.ownBlock] at hg; subst hg; exact lt_of_block hg') (fun e => hvb (e ▸ hg))
  have hbut : But b w w3 := (But.of_below hn.2).trans hb3
  clear hn hb3 h h0 h7
  go_wp2_with fail
  go_ret
  exact ⟨_, rfl, hown, hh, hbut⟩
end Go.Proofs.Ytcljkcgccahlcaa
