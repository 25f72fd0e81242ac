/- GrPlays: what holds at a round's head; spoil; plain laws of lists of families. -/
import Derived.Test.YtbkgipafikeccaaRU
namespace Go.Proofs.Ytbkgipafikeccaa
open Go.RowKit
set_option linter.unusedVariables false

theorem famsOf_eq (p : Nat → Bool) : famsOf p = [1, 2, 3, 4, 5].filter p := rfl
theorem filter_fams (q p r : Nat → Bool) (h : ∀ i, 1 ≤ i → i ≤ 5 → r i = (p i && q i)) : (famsOf p).filter q = famsOf r := by
  rw [famsOf_eq, famsOf_eq, List.filter_filter]
  apply List.filter_congr
  intro i hi
  have : 1 ≤ i ∧ i ≤ 5 := by simp at hi; omega
  rw [h i this.1 this.2, Bool.and_comm]
theorem contains_fams (p : Nat → Bool) (i : Nat) (h1 : 1 ≤ i) (h5 : i ≤ 5) : (famsOf p).contains i = p i := by
  rw [Bool.eq_iff_iff, List.contains_iff_mem, mem_famsOf]
  exact ⟨fun h => h.2, fun h => ⟨⟨h1, h5⟩, h⟩⟩
theorem up_keeps (st : Nat → Bool) (F : List Int) (K : List (Int × Bool)) (o : Bool) : (famsOf st).filter (pU F K o) = famsOf (dropL st (famsOf (goneU st F K o))) :=
  filter_fams _ _ _ fun i h1 h5 => by
    show (st i && !((famsOf (goneU st F K o)).contains i)) = _
    rw [contains_fams _ i h1 h5]
    show (st i && !(st i && !(pU F K o i))) = _
    cases st i <;> cases pU F K o i <;> rfl
theorem up_goes (st : Nat → Bool) (F : List Int) (K : List (Int × Bool)) (o : Bool) : (famsOf st).filter (pN F K o) = famsOf (goneU st F K o) :=
  filter_fams _ _ _ fun i h1 h5 => by
    show (st i && !(pU F K o i)) = (st i && pN F K o i)
    rfl
theorem but_in (st : Nat → Bool) (a : Nat) : but (a : Int) (nums (famsOf st)) = nums (famsOf (upd st a false)) := by
  unfold but nums
  rw [List.filter_map, ← filter_fams (fun i => decide (i ≠ a)) st (upd st a false)]
  · congr 1
    apply List.filter_congr
    intro i hi
    simp [bne]
    by_cases h : i = a
    · simp [h]
    · have : ¬ (i : Int) = (a : Int) := by omega
      simp [h, this]
  · intro i h1 h5
    unfold upd
    by_cases h : i = a
    · simp [h]
    · simp [h]
theorem but_out (st : Nat → Bool) (n : Int) (h : ¬ (1 ≤ n ∧ n ≤ 5)) : but n (nums (famsOf st)) = nums (famsOf st) := by
  unfold but
  rw [List.filter_eq_self]
  intro x hx
  unfold nums at hx
  rw [List.mem_map] at hx
  obtain ⟨i, hi, rfl⟩ := hx
  have := (mem_famsOf.1 hi).1
  simp
  omega
theorem but_less (st : Nat → Bool) (a : Nat) (h1 : 1 ≤ a) (h5 : a ≤ 5) : decide ((but (a : Int) (nums (famsOf st))).length < (nums (famsOf st)).length) = st a := by
  cases hv : st a with
  | true =>
    rw [decide_eq_true_eq]
    unfold but
    rw [← Nat.not_le]
    intro hle
    have he := List.Sublist.eq_of_length_le (List.filter_sublist (l := nums (famsOf st)) (p := fun x => x != (a : Int))) hle
    have hm : (a : Int) ∈ nums (famsOf st) := by unfold nums; exact List.mem_map.2 ⟨a, mem_famsOf.2 ⟨⟨h1, h5⟩, hv⟩, rfl⟩
    have := (List.filter_eq_self.1 he) _ hm
    simp at this
  | false =>
    have : but (a : Int) (nums (famsOf st)) = nums (famsOf st) := by
      unfold but
      rw [List.filter_eq_self]
      intro x hx
      unfold nums at hx
      rw [List.mem_map] at hx
      obtain ⟨i, hi, rfl⟩ := hx
      have h2 := (mem_famsOf.1 hi).2
      simp only [bne_iff_ne, ne_eq]
      intro e
      obtain rfl : i = a := by omega
      rw [hv] at h2; cases h2
    rw [this]
    simp
theorem eqB_self (A : List Int) : eqB A A = true := by unfold eqB; simp

/-- A row of ints that may be spoilt. -/
def IntRow (w : World) (v : Value) : Prop := ∃ ao len cap, v = .slice ao len cap ∧ len ≤ 9223372036854775807 ∧ (0 < len → ∃ g cur, ao = some ⟨g, 0, none⟩ ∧ len ≤ cur.size ∧ w.heap[g]? = some (.cells cur 3 (0, 0)) ∧ ∀ i, i < len → ∃ k, cur[i]? = some (.int .i64 k))

theorem own_ints {w : World} {base n : Nat} {v : Value} {l : List Nat} (h : w.ownsRow base 3 1 v n (ints l)) (hn : n ≤ 1000) : IntRow w v := by
  rcases h.2 with ⟨rfl, rfl⟩ | ⟨g, cap, cur, rfl, hbg, hg, hnc, hcm, hcs, htake⟩
  · exact ⟨none, 0, 0, rfl, by omega, fun h => by omega⟩
  · refine ⟨_, _, _, rfl, by omega, fun _ => ⟨g, cur, rfl, by omega, hg, fun i hi => ?_⟩⟩
    have e : (cur.toList.take (n * 1))[i]? = (ints l)[i]? := by rw [htake]
    have hl : (ints l).length = n := by simpa using h.1
    rw [List.getElem?_take_of_lt (by omega)] at e
    simp only [Array.getElem?_toList] at e
    rw [e]
    unfold ints
    rw [List.getElem?_map]
    have hll : i < l.length := by rw [ints_len] at hl; omega
    exact ⟨_, by rw [List.getElem?_eq_getElem hll]; rfl⟩
theorem IntRow.nil (w : World) : IntRow w (.slice none 0 0) := ⟨none, 0, 0, rfl, by omega, fun h => by omega⟩
theorem IntRow.move {w w' : World} {v : Value} (h : IntRow w v) (hk : ∀ g, v.ownBlock = some g → g < w.heap.size → w'.heap[g]? = w.heap[g]?) : IntRow w' v := by
  obtain ⟨ao, len, cap, rfl, hm, hr⟩ := h
  refine ⟨ao, len, cap, rfl, hm, fun h0 => ?_⟩
  obtain ⟨g, cur, rfl, hs, hg, hi⟩ := hr h0
  exact ⟨g, cur, rfl, hs, (hk g rfl (lt_of_block hg)).trans hg, hi⟩
theorem IntRow.still {w w' : World} {v : Value} (h : IntRow w v) (hs : Still w w') : IntRow w' v := h.move fun g _ _ => hs.blk g

set_option maxHeartbeats 400000 in
/-- spoil, and another row that it may share its block with. -/
theorem spoil_keep (v v2 : Value) (w : World) (h : IntRow w v) (h2 : IntRow w v2) :
    Calls Try.prog 17 #[v] w fun r w' => r = .returned (.tuple #[]) ∧ (∃ g, But g w w' ∧ (v.ownBlock = some g ∨ w.heap.size ≤ g)) ∧ IntRow w' v2 := by
  obtain ⟨ao, len, cap, rfl, hm, hr⟩ := h
  have HR := Lib.hid hr
  have HI2 := Lib.hid h2
  clear hr h2
  go_enter Try.func17, Try.ntmps17
  go_wp2_with fail
  go_loopw [2] (fun i wr => ∃ k : Nat, i = .int .i64 k ∧ k ≤ len ∧ IntRow wr v2 ∧ IntRow wr (.slice ao len cap) ∧ (0 < len → ∃ g, ao = some ⟨g, 0, none⟩ ∧ But g w wr) ∧ (len = 0 → But w.heap.size w wr)) (fun i _ => len - (intOf i).toNat)
  case atStart => exact ⟨0, rfl, Nat.zero_le _, HI2.out, ⟨_, _, _, rfl, hm, HR.out⟩, fun h => by obtain ⟨g, cur, e, _⟩ := HR.out h; exact ⟨g, e, But.refl _ _⟩, fun _ => But.refl _ _⟩
  case round =>
    obtain ⟨k, rfl, hk, hi2, hi1, hb1, hb0⟩ := hrel
    have HB := Lib.hid hb1
    have HB0 := Lib.hid hb0
    have H2 := Lib.hid hi2
    have H1 := Lib.hid hi1
    clear hi2 hi1 hb1 hb0
    by_cases hlt : k < len
    · obtain ⟨ao', len', cap', e', _, hr⟩ := H1.out
      injection e' with e1 e2 e3
      subst e1 e2 e3
      obtain ⟨g, cu, rfl, hcs, hcg, hci⟩ := hr (by omega)
      obtain ⟨m, hm'⟩ := hci k hlt
      have hc : wr.cell? ⟨g, k, none⟩ = some (.int .i64 m) := by rw [cell_of_row _ _ _ _ _ _ hcg]; exact hm'
      have hfz : wr.frozen? ⟨g, k, none⟩ = false := frozen_of_row _ _ _ _ _ hcg
      have hset := set_heap (i := k) (v := .int .i64 77) hcg
      have hints : ∀ n : Nat, (∀ i : Nat, i < n → ∃ k, cu[i]? = some (Value.int .i64 k)) → ∀ i : Nat, i < n → ∃ j, (cu.setIfInBounds k (.int .i64 77))[i]? = some (Value.int .i64 j) := by
        intro n hn i hi
        rw [Array.getElem?_setIfInBounds]
        split
        · exact ⟨77, by simp; omega⟩
        · exact hn i hi
      have hn1 : IntRow (wr.setCell ⟨g, k, none⟩ (.int .i64 77)) (.slice (some ⟨g, 0, none⟩) len cap) :=
        ⟨_, _, _, rfl, hm, fun _ => ⟨g, _, rfl, by simpa using hcs, hset, hints _ hci⟩⟩
      have hn2 : IntRow (wr.setCell ⟨g, k, none⟩ (.int .i64 77)) v2 := by
        obtain ⟨ao2, len2, cap2, rfl, hm2, hr2⟩ := H2.out
        refine ⟨_, _, _, rfl, hm2, fun h0 => ?_⟩
        obtain ⟨g2, cu2, rfl, hs2, hg2, hi2⟩ := hr2 h0
        by_cases hgg : g2 = g
        · subst hgg
          rw [hcg] at hg2
          injection hg2 with hg2
          injection hg2 with hg2
          subst hg2
          exact ⟨g2, _, rfl, by simpa using hs2, hset, hints _ hi2⟩
        · exact ⟨g2, cu2, rfl, hs2, (heap_setCell_other _ _ _ _ (by show g2 ≠ g; exact hgg)).trans hg2, hi2⟩
      have HN1 := Lib.hid hn1
      have HN2 := Lib.hid hn2
      have hbu : But g w (wr.setCell ⟨g, k, none⟩ (.int .i64 77)) := by
        obtain ⟨g', e, hb⟩ := HB.out (by omega)
        injection e with e
        injection e with e
        subst e
        exact hb.setCell k _
      have HBU := Lib.hid hbu
      have i3 : (0 : Int) ≤ (k : Int) := by omega
      have i4 : (k : Int) < (len : Int) := by omega
      clear hcg hcs hci hm' hset hints hn1 hn2 hbu hr
      go_wp2
      go_roundw
      case rel => exact ⟨k + 1, by go_num, by omega, HN2.out, HN1.out, fun _ => ⟨g, rfl, HBU.out⟩, fun h => by omega⟩
      case measure => simp [intOf]; omega
    · obtain rfl : k = len := by omega
      have HP : Hid ((∃ g, But g w wr ∧ ((Value.slice ao k cap).ownBlock = some g ∨ w.heap.size ≤ g)) ∧ IntRow wr v2) := by
        refine ⟨?_, H2.out⟩
        by_cases h0 : 0 < k
        · obtain ⟨g, rfl, hb⟩ := HB.out h0
          exact ⟨g, hb, .inl rfl⟩
        · exact ⟨_, HB0.out (by omega), .inr (Nat.le_refl _)⟩
      clear hlt hk
      go_wp2
      go_end0
      exact ⟨rfl, HP.out⟩

/-- What holds at a round's head. -/
structure MidP (w wr : World) (b mb : Nat) (st : Nat → Bool) (e : Int) (v : Value) : Prop where
  h : IsH wr b st e
  m : wr.heap[mb]? = some (.cells #[v, .int .u64 e] 48 (0, 0))
  rd : Rd wr v (nums (famsOf st))
  own : ∀ g, v.ownBlock = some g → w.heap.size ≤ g ∧ g < wr.heap.size ∧ g ≠ b ∧ g ≠ mb
  b0 : w.heap.size ≤ b
  m0 : w.heap.size ≤ mb
  bm : b ≠ mb
  bel : Below w.heap.size w wr

/-- A world whose blocks that were are as they were, but one that is none of these. -/
theorem MidP.keep {w w1 w2 : World} {b mb : Nat} {st : Nat → Bool} {e : Int} {v : Value} (h : MidP w w1 b mb st e v) (hb : Below w.heap.size w1 w2) (hk : ∀ g, g < w1.heap.size → (g = b ∨ g = mb ∨ v.ownBlock = some g) → w2.heap[g]? = w1.heap[g]?) : MidP w w2 b mb st e v :=
  ⟨h.h.keep (hk b h.h.lt (.inl rfl)), (hk mb (lt_of_block h.m) (.inr (.inl rfl))).trans h.m, h.rd.move fun g hg hl => hk g hl (.inr (.inr hg)), fun g hg => by have := h.own g hg; have := hb.size; exact ⟨by omega, by omega, by omega, by omega⟩, h.b0, h.m0, h.bm, h.bel.trans hb⟩
theorem MidP.below {w w1 w2 : World} {b mb : Nat} {st : Nat → Bool} {e : Int} {v : Value} (h : MidP w w1 b mb st e v) (hb : Below w1.heap.size w1 w2) : MidP w w2 b mb st e v := h.keep (hb.mono h.bel.size) fun g hg _ => hb.block g hg
theorem MidP.still {w w1 w2 : World} {b mb : Nat} {st : Nat → Bool} {e : Int} {v : Value} (h : MidP w w1 b mb st e v) (hb : Still w1 w2) : MidP w w2 b mb st e v := h.below hb.below
/-- Behind a call of the helper's: its block alone is another. -/
theorem MidP.but {w w1 w2 : World} {b mb : Nat} {st st' : Nat → Bool} {e e' : Int} {v : Value} (h : MidP w w1 b mb st e v) (hb : But b w1 w2) :
    w2.heap[mb]? = some (.cells #[v, .int .u64 e] 48 (0, 0)) ∧ Rd w2 v (nums (famsOf st)) ∧ Below w.heap.size w w2 :=
  ⟨(hb.block _ (lt_of_block h.m) (by have := h.bm; omega)).trans h.m, h.rd.move fun g hg hl => hb.block g hl (h.own g hg).2.2.1, h.bel.trans (hb.below h.b0 h.bel.size)⟩
/-- A row of its own that is spoilt. -/
theorem MidP.spoilt {w w1 w2 : World} {b mb g : Nat} {st : Nat → Bool} {e : Int} {v vs : Value} (h : MidP w w1 b mb st e v) (hb : But g w1 w2) (hg : vs.ownBlock = some g ∨ w1.heap.size ≤ g) (hs : ∀ g, vs.ownBlock = some g → w.heap.size ≤ g ∧ g ≠ b ∧ g ≠ mb ∧ v.ownBlock ≠ some g) : MidP w w2 b mb st e v := by
  have hsz := h.bel.size
  refine h.keep (hb.below ?_ hsz) fun k hk hc => hb.block k hk ?_
  · rcases hg with hg | hg
    · exact (hs g hg).1
    · omega
  · rcases hg with hg | hg
    · have := hs g hg
      rcases hc with rfl | rfl | hc
      · exact fun e => this.2.1 e.symm
      · exact fun e => this.2.2.1 e.symm
      · rintro rfl; exact this.2.2.2 hc
    · omega
end Go.Proofs.Ytbkgipafikeccaa
