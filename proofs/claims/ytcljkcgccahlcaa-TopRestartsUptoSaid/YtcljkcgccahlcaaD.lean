/- gr: what a session says: of, stands. -/
import Derived.Test.YtcljkcgccahlcaaC
namespace Go.Proofs.Ytcljkcgccahlcaa
open Go.RowKit
set_option linter.unusedVariables false

/-- A slice of api.Restart that reads as K. -/
structure RdK (w : World) (v : Value) (K : List (Int × Bool)) : Prop where
  form : ∃ ao cap, v = .slice ao K.length cap ∧ K.length ≤ cap ∧ (K ≠ [] → ∃ g off, ao = some ⟨g, off, none⟩ ∧ ∀ i (h : i < K.length), w.cell? ⟨g, off + i * 2, none⟩ = some (.int .i64 K[i].1) ∧ w.cell? ⟨g, off + i * 2 + 1, none⟩ = some (.bool K[i].2))
  max : K.length ≤ maxLen

theorem RdK.move {w w' : World} {v : Value} {L : List (Int × Bool)} (h : RdK w v L) (hk : ∀ g, v.ownBlock = some g → g < w.heap.size → w'.heap[g]? = w.heap[g]?) : RdK w' v L := by
  obtain ⟨⟨ao, cap, rfl, hc, hl⟩, hm⟩ := h
  refine ⟨⟨ao, cap, rfl, hc, fun hL => ?_⟩, hm⟩
  obtain ⟨g, off, rfl, hat⟩ := hl hL
  refine ⟨g, off, rfl, fun i hi => ?_⟩
  have hg := hk g rfl (by have := World.block_lt_of_cell? _ _ (hat i hi).1; simpa using this)
  exact ⟨(World.cell?_of_block (w := w) hg).trans (hat i hi).1, (World.cell?_of_block (w := w) hg).trans (hat i hi).2⟩
theorem RdK.below {w w' : World} {v : Value} {L : List (Int × Bool)} (h : RdK w v L) (hb : Below w.heap.size w w') : RdK w' v L := h.move fun g _ hg => hb.block g hg

theorem RdK.open_ {w : World} {v : Value} {K : List (Int × Bool)} (h : RdK w v K) : ∃ ao cap g off, v = .slice ao K.length cap ∧ K.length ≤ cap ∧ (0 < K.length → ao = some ⟨g, off, none⟩ ∧ g < w.heap.size) ∧
    ∀ i, i < K.length → w.cell? ⟨g, off + i * 2, none⟩ = some (.int .i64 (K.getD i (0, false)).1) ∧ w.cell? ⟨g, off + i * 2 + 1, none⟩ = some (.bool (K.getD i (0, false)).2) := by
  obtain ⟨⟨ao, cap, rfl, hc, hl⟩, _⟩ := h
  by_cases hL : K = []
  · exact ⟨ao, cap, 0, 0, rfl, hc, fun h => by simp [hL] at h, fun i hi => by simp [hL] at hi⟩
  · obtain ⟨g, off, rfl, hat⟩ := hl hL
    have hpos : 0 < K.length := List.length_pos_iff.2 hL
    refine ⟨_, cap, g, off, rfl, hc, fun _ => ⟨rfl, ?_⟩, fun i hi => ?_⟩
    · have := World.block_lt_of_cell? _ _ (hat 0 hpos).1; simpa using this
    · rw [(hat i hi).1, (hat i hi).2]; simp [List.getD_eq_getElem?_getD, List.getElem?_eq_getElem hi]

/-- A session: its cells, its families, what it keeps, whether it has graceful restart, its time. -/
structure Ses (w : World) (c : Array Value) (F : List Int) (K : List (Int × Bool)) (gr : Bool) (time : Int) : Prop where
  size : c.size = 10
  one : c.all (·.oneCell') = true
  fams : ∃ fs, c[1]? = some fs ∧ Rd w fs F
  hasGR : c[6]? = some (.bool gr)
  time_ : c[8]? = some (.int .i64 time)
  kept : ∃ ks, c[9]? = some ks ∧ RdK w ks K
  t1 : -9223372036854775808 ≤ time
  t2 : time ≤ 9223372036854775807

theorem Ses.below {w w' : World} {c : Array Value} {F : List Int} {K : List (Int × Bool)} {gr : Bool} {time : Int} (h : Ses w c F K gr time) (hb : Below w.heap.size w w') : Ses w' c F K gr time := by
  obtain ⟨fs, f1, f2⟩ := h.fams
  obtain ⟨ks, k1, k2⟩ := h.kept
  exact ⟨h.size, h.one, ⟨fs, f1, f2.below hb⟩, h.hasGR, h.time_, ⟨ks, k1, k2.below hb⟩, h.t1, h.t2⟩

def ofP (F : List Int) : Nat → Bool := fun i => decide (1 ≤ i ∧ i ≤ 5) && F.contains (i : Int)
def standsP (K : List (Int × Bool)) (only : Bool) : Nat → Bool := fun i => decide (1 ≤ i ∧ i ≤ 5) && K.any fun x => x.1 == (i : Int) && (x.2 || !only)

theorem ofP_yes (L : List Int) (a : Nat) (h1 : 1 ≤ a) (h5 : a ≤ 5) : upd (ofP L) a true = ofP (L ++ [(a : Int)]) := by
  funext i
  unfold upd ofP
  by_cases h : i = a
  · subst h; simp; omega
  · have h' : ¬ (i : Int) = (a : Int) := by omega
    simp [h, h']
theorem ofP_no (L : List Int) (n : Int) (h : inB n = false) : ofP (L ++ [n]) = ofP L := by
  funext i
  unfold ofP
  by_cases hi : 1 ≤ i ∧ i ≤ 5
  · have h' : ¬ (i : Int) = n := by rintro rfl; simp [inB] at h; omega
    simp [h']
  · simp [hi]
theorem ofP_nil : ofP [] = nil0 := by funext i; simp [ofP, nil0]

theorem standsP_yes (L : List (Int × Bool)) (only b : Bool) (a : Nat) (h1 : 1 ≤ a) (h5 : a ≤ 5) (hb : (b || !only) = true) : upd (standsP L only) a true = standsP (L ++ [((a : Int), b)]) only := by
  funext i
  unfold upd standsP
  by_cases h : i = a
  · subst h; simp [hb]; omega
  · have h' : ((a : Int) == (i : Int)) = false := by simp; omega
    simp [h, h']
theorem standsP_no (L : List (Int × Bool)) (only b : Bool) (n : Int) (h : (inB n && (b || !only)) = false) : standsP (L ++ [(n, b)]) only = standsP L only := by
  funext i
  unfold standsP
  by_cases hi : 1 ≤ i ∧ i ≤ 5
  · by_cases h' : n = (i : Int)
    · subst h'
      have hin : inB (i : Int) = true := by simp [inB]; omega
      rw [hin] at h
      simp at h
      simp [h]
    · have h2 : (n == (i : Int)) = false := by simpa using h'
      simp [h2]
  · simp [hi]
theorem standsP_nil (only : Bool) : standsP [] only = nil0 := by funext i; simp [standsP, nil0]

theorem inB_nat {n : Int} (h : inB n = true) : ∃ i : Nat, n = (i : Int) ∧ 1 ≤ i ∧ i ≤ 5 := by
  simp [inB] at h
  exact ⟨n.toNat, by omega, by omega, by omega⟩

set_option maxRecDepth 100000 in
theorem of_any (c : Array Value) (F : List Int) (K : List (Int × Bool)) (gr : Bool) (time : Int) (w : World) (h : Ses w c F K gr time) :
    Calls Try.prog 29 #[.agg c] w fun r w' => r = .returned (.agg (fC (ofP F))) ∧ Below w.heap.size w w' := by
  obtain ⟨fs, hf1, hf2⟩ := h.fams
  obtain ⟨ao, cap, g, off, rfl, hcap, hao, hcell⟩ := hf2.open_
  have hlm : F.length ≤ 9223372036854775807 := by have := hf2.max; unfold maxLen at this; omega
  have HC := Lib.hid hcell
  have HA := Lib.hid hao
  clear hcell hao hf2 hcap h
  have z := fun w => zeroF w
  go_enter Try.func29, Try.ntmps29
  go_wp2_with fail
  clear z hf1
  go_loopw [8] (fun i wr => ∃ k : Nat, i = .int .i64 k ∧ k ≤ F.length ∧ wr.heap[w.heap.size + 1]? = some (.cells (fC (ofP (F.take k))) 78 (0, 0)) ∧ Below w.heap.size w wr) (fun i _ => F.length - (intOf i).toNat)
  case atStart => exact ⟨0, rfl, Nat.zero_le _, by rw [List.take_zero, ofP_nil]; exact heap_alloc2_new _ _ _, ((Below.refl _ _).alloc (Nat.le_refl _) _).alloc (by simp) _⟩
  case round =>
    obtain ⟨k, rfl, hk, hblk, hbel⟩ := hrel
    by_cases hlt : k < F.length
    · obtain ⟨rfl, hg⟩ := HA.out (by omega)
      have hc : wr.cell? ⟨g, off + k, none⟩ = some (.int .i64 (F.getD k 0)) := (hbel.cell hg).trans (HC.out k hlt)
      have hT : Hid (F.take (k + 1) = F.take k ++ [F.getD k 0]) := by
        show _ = _
        rw [List.take_succ_eq_append_getElem hlt]; simp [List.getD_eq_getElem?_getD, List.getElem?_eq_getElem hlt]
      cases hin : inB (F.getD k 0) with
      | true =>
        obtain ⟨a, ha, h1, h5⟩ := inB_nat hin
        rw [ha] at hc hT
        have hst : wr.cell? ⟨w.heap.size + 1, a, none⟩ = some (.bool (ofP (F.take k) a)) := by rw [cell_of_row _ _ _ _ _ _ hblk]; exact fC_at _ a (by omega)
        have hfz := frozen_of_row wr (w.heap.size + 1) a _ _ hblk
        have hnew : (wr.setCell ⟨w.heap.size + 1, a, none⟩ (.bool true)).heap[w.heap.size + 1]? = some (.cells (fC (ofP (F.take (k + 1)))) 78 (0, 0)) := by
          rw [hT.out, ← ofP_yes _ a h1 h5, ← fC_set _ _ a (by omega)]; exact set_heap hblk
        have hbel2 := hbel.setCell (p := ⟨w.heap.size + 1, a, none⟩) (by show w.heap.size ≤ w.heap.size + 1; omega) (.bool true)
        have HI : Hid (inB (a : Int) = true) := by show _ = _; rw [← ha]; exact hin
        clear hblk hbel hin ha
        go_wp2_with fail
        refine (in_any (a : Int) _).mono ?_
        rw [HI.out]
        rintro e w' ⟨rfl, rfl⟩
        go_wp2_with fail
        go_roundw
        case rel => exact ⟨k + 1, by go_num, by omega, hnew, hbel2⟩
        case measure => simp [intOf]; omega
      | false =>
        have hnew : wr.heap[w.heap.size + 1]? = some (.cells (fC (ofP (F.take (k + 1)))) 78 (0, 0)) := by rw [hT.out, ofP_no _ _ hin]; exact hblk
        have HI := Lib.hid hin
        clear hblk hin
        generalize F.getD k 0 = n at *
        go_wp2_with fail
        refine (in_any n _).mono ?_
        rw [HI.out]
        rintro e w' ⟨rfl, rfl⟩
        go_wp2_with fail
        go_roundw
        case rel => exact ⟨k + 1, by go_num, by omega, hnew, hbel⟩
        case measure => simp [intOf]; omega
    · obtain rfl : k = F.length := by omega
      rw [List.take_length] at hblk
      have HB := Lib.hid hblk
      clear hlt hk hblk
      go_wp2_with (first
        | (refine wpList_load_row rfl 78 (.tmp 2) rfl (w.heap.size + 1) rfl 78 (fC (ofP F)) (0, 0) _ HB.out Try.underlying78 rfl sizeF ?_)
        | (refine wpList_store_row rfl 78 (.tmp 2) (.tmp 17) rfl (w.heap.size + 1) (fC (ofP F)) rfl rfl 78 (fC (ofP F)) HB.out sizeF rfl (by simp [fC, Value.oneCell']) ?_; rw [setRow_self _ _ _ _ _ HB.out]))
      exact bodyPost_ret (v := .agg (fC (ofP F))) (results_cell_row Try.results29 _ _ (w.heap.size + 1) 78 (fC (ofP F)) (0, 0) _ rfl HB.out Try.underlying78 rfl sizeF) rfl ⟨rfl, hbel⟩

theorem take_snoc {α : Type} (K : List α) (k : Nat) (d : α) (hlt : k < K.length) : K.take (k + 1) = K.take k ++ [K.getD k d] := by
  rw [List.take_succ_eq_append_getElem hlt]; simp [List.getD_eq_getElem?_getD, List.getElem?_eq_getElem hlt]

set_option maxRecDepth 100000 in
theorem stands_any (c : Array Value) (F : List Int) (K : List (Int × Bool)) (gr : Bool) (time : Int) (only : Bool) (w : World) (h : Ses w c F K gr time) :
    Calls Try.prog 30 #[.agg c, .bool only] w fun r w' => r = .returned (.agg (fC (standsP K only))) ∧ Below w.heap.size w w' := by
  obtain ⟨fs, hf1, hf2⟩ := h.kept
  obtain ⟨ao, cap, g, off, rfl, hcap, hao, hcell⟩ := hf2.open_
  have hlm : K.length ≤ 9223372036854775807 := by have := hf2.max; unfold maxLen at this; omega
  have HC := Lib.hid hcell
  have HA := Lib.hid hao
  clear hcell hao hf2 hcap h
  have z := fun w => zeroF w
  go_enter Try.func30, Try.ntmps30
  go_wp2_with fail
  clear z hf1
  go_loopw [10] (fun i wr => ∃ k : Nat, i = .int .i64 k ∧ k ≤ K.length ∧ wr.heap[w.heap.size + 1]? = some (.cells (fC (standsP (K.take k) only)) 78 (0, 0)) ∧ Below w.heap.size w wr) (fun i _ => K.length - (intOf i).toNat)
  case atStart => exact ⟨0, rfl, Nat.zero_le _, by rw [List.take_zero, standsP_nil]; exact heap_alloc2_new _ _ _, ((Below.refl _ _).alloc (Nat.le_refl _) _).alloc (by simp) _⟩
  case round =>
    obtain ⟨k, rfl, hk, hblk, hbel⟩ := hrel
    have hfb := lt_of_block hblk
    by_cases hlt : k < K.length
    · obtain ⟨rfl, hg⟩ := HA.out (by omega)
      have hc1 : wr.cell? ⟨g, off + k * 2, none⟩ = some (.int .i64 (K.getD k (0, false)).1) := (hbel.cell hg).trans (HC.out k hlt).1
      have hc2 : wr.cell? ⟨g, off + k * 2 + 1, none⟩ = some (.bool (K.getD k (0, false)).2) := (hbel.cell hg).trans (HC.out k hlt).2
      have hT : Hid (K.take (k + 1) = K.take k ++ [((K.getD k (0, false)).1, (K.getD k (0, false)).2)]) := take_snoc K k _ hlt
      generalize (K.getD k (0, false)).1 = n at *
      generalize (K.getD k (0, false)).2 = bk at *
      cases hin : inB n && (bk || !only) with
      | true =>
        have hin1 : inB n = true := by revert hin; cases inB n <;> simp
        have hin2 : (bk || !only) = true := by revert hin; cases inB n <;> simp
        obtain ⟨a, rfl, h1, h5⟩ := inB_nat hin1
        have HI := Lib.hid hin1
        have hst : wr.cell? ⟨w.heap.size + 1, a, none⟩ = some (.bool (standsP (K.take k) only a)) := by rw [cell_of_row _ _ _ _ _ _ hblk]; exact fC_at _ a (by omega)
        have hfz := frozen_of_row _ (w.heap.size + 1) a _ _ hblk
        have hnew : ((wr.setCell ⟨w.heap.size + 1, a, none⟩ (.bool true)).alloc (.cells #[.int .i64 (a : Int), .bool bk] 73)).heap[w.heap.size + 1]? = some (.cells (fC (standsP (K.take (k + 1)) only)) 78 (0, 0)) := by
          rw [Below.heap_alloc _ _ _ (by simpa using hfb), hT.out, ← standsP_yes _ only bk a h1 h5 hin2, ← fC_set _ _ a (by omega)]; exact set_heap hblk
        have hbel2 := (hbel.setCell (p := ⟨w.heap.size + 1, a, none⟩) (by show w.heap.size ≤ w.heap.size + 1; omega) (.bool true)).alloc (by simpa using hbel.size) (.cells #[.int .i64 (a : Int), .bool bk] 73)
        clear hblk hbel hin hin1
        cases only <;> cases bk <;> simp at hin2
        all_goals
          go_wp2_with fail
          refine (in_any (a : Int) _).mono ?_
          rw [HI.out]
          rintro e w' ⟨rfl, rfl⟩
          go_wp2_with fail
          go_roundw
          case rel => exact ⟨k + 1, by go_num, by omega, hnew, hbel2⟩
          case measure => simp [intOf]; omega
      | false =>
        have hnew : (wr.alloc (.cells #[.int .i64 n, .bool bk] 73)).heap[w.heap.size + 1]? = some (.cells (fC (standsP (K.take (k + 1)) only)) 78 (0, 0)) := by rw [Below.heap_alloc _ _ _ hfb, hT.out, standsP_no _ only bk n hin]; exact hblk
        have hbel2 := hbel.alloc hbel.size (.cells #[.int .i64 n, .bool bk] 73)
        clear hblk hbel
        cases hin1 : inB n with
        | false =>
          have HI := Lib.hid hin1
          clear hin hin1
          go_wp2_with fail
          refine (in_any n _).mono ?_
          rw [HI.out]
          rintro e w' ⟨rfl, rfl⟩
          go_wp2_with fail
          go_roundw
          case rel => exact ⟨k + 1, by go_num, by omega, hnew, hbel2⟩
          case measure => simp [intOf]; omega
        | true =>
          rw [hin1] at hin
          have HI := Lib.hid hin1
          clear hin1
          cases only <;> cases bk <;> simp at hin
          all_goals
            go_wp2_with fail
            refine (in_any n _).mono ?_
            rw [HI.out]
            rintro e w' ⟨rfl, rfl⟩
            go_wp2_with fail
            go_roundw
            case rel => exact ⟨k + 1, by go_num, by omega, hnew, hbel2⟩
            case measure => simp [intOf]; omega
    · obtain rfl : k = K.length := by omega
      rw [List.take_length] at hblk
      have HB := Lib.hid hblk
      clear hlt hk hblk
      go_wp2_with (first
        | (refine wpList_load_row rfl 78 (.tmp 4) rfl (w.heap.size + 1) rfl 78 (fC (standsP K only)) (0, 0) _ HB.out Try.underlying78 rfl sizeF ?_)
        | (refine wpList_store_row rfl 78 (.tmp 4) (.tmp 29) rfl (w.heap.size + 1) (fC (standsP K only)) rfl rfl 78 (fC (standsP K only)) HB.out sizeF rfl (by simp [fC, Value.oneCell']) ?_; rw [setRow_self _ _ _ _ _ HB.out]))
      exact bodyPost_ret (v := .agg (fC (standsP K only))) (results_cell_row Try.results30 _ _ (w.heap.size + 1) 78 (fC (standsP K only)) (0, 0) _ rfl HB.out Try.underlying78 rfl sizeF) rfl ⟨rfl, hbel⟩
end Go.Proofs.Ytcljkcgccahlcaa
