/- frame: the frames of a stream: plain laws, no program in sight. -/
import Derived.Test.YtcbkmafekkhpiaaFA
namespace Go.Proofs.Ytcbkmafekkhpiaa
open Go.RowKit
set_option linter.unusedVariables false

abbrev Fr := Nat × List UInt8
def cutN : Nat → List UInt8 → List Fr × Nat × List UInt8
  | 0, l => ([], 0, l)
  | n + 1, l => if l.length < 19 then ([], 0, l) else if subL l ≠ 0 then ([], subL l, []) else if l.length < longL l then ([], 0, l) else
      ((bt l 18, (l.take (longL l)).drop 19) :: (cutN n (l.drop (longL l))).1, (cutN n (l.drop (longL l))).2)
def cut (l : List UInt8) : List Fr × Nat × List UInt8 := cutN l.length l

theorem long_ge {l : List UInt8} (h : subL l = 0) : 19 ≤ longL l ∧ longL l ≤ 4096 := by
  unfold subL at h
  split at h
  · cases h
  · split at h
    · cases h
    · omega
theorem cutN_fuel : ∀ (n m : Nat) (l : List UInt8), l.length ≤ n → l.length ≤ m → cutN n l = cutN m l
  | 0, 0, l, _, _ => rfl
  | 0, m + 1, l, h, _ => by unfold cutN; rw [if_pos (by omega)]
  | n + 1, 0, l, _, h => by unfold cutN; rw [if_pos (by omega)]
  | n + 1, m + 1, l, h1, h2 => by
    unfold cutN
    split
    · rfl
    · split
      · rfl
      · split
        · rfl
        · rename_i a b c
          have hb : subL l = 0 := by omega
          have := long_ge hb
          have e := cutN_fuel n m (l.drop (longL l)) (by rw [List.length_drop]; omega) (by rw [List.length_drop]; omega)
          rw [e]
theorem cut_eq (l : List UInt8) : cut l = if l.length < 19 then ([], 0, l) else if subL l ≠ 0 then ([], subL l, []) else if l.length < longL l then ([], 0, l) else
      ((bt l 18, (l.take (longL l)).drop 19) :: (cut (l.drop (longL l))).1, (cut (l.drop (longL l))).2) := by
  have h : cut l = cutN (l.length + 1) l := cutN_fuel _ _ _ (Nat.le_refl _) (by omega)
  rw [h]
  show (if l.length < 19 then _ else _) = _
  split
  · rfl
  · split
    · rfl
    · split
      · rfl
      · rename_i a b c
        have hb : subL l = 0 := by omega
        have := long_ge hb
        unfold cut
        rw [cutN_fuel l.length (l.drop (longL l)).length _ (by rw [List.length_drop]; omega) (Nat.le_refl _)]
theorem cut_short {l : List UInt8} (h : l.length < 19) : cut l = ([], 0, l) := by rw [cut_eq, if_pos h]
theorem cut_bad {l : List UInt8} (h : 19 ≤ l.length) (hs : subL l ≠ 0) : cut l = ([], subL l, []) := by rw [cut_eq, if_neg (by omega), if_pos hs]
theorem cut_wait {l : List UInt8} (h : 19 ≤ l.length) (hs : subL l = 0) (hl : l.length < longL l) : cut l = ([], 0, l) := by rw [cut_eq, if_neg (by omega), if_neg (by omega), if_pos hl]
theorem cut_more {l : List UInt8} (h : 19 ≤ l.length) (hs : subL l = 0) (hl : longL l ≤ l.length) :
    cut l = ((bt l 18, (l.take (longL l)).drop 19) :: (cut (l.drop (longL l))).1, (cut (l.drop (longL l))).2) := by rw [cut_eq, if_neg (by omega), if_neg (by omega), if_neg (by omega)]

theorem bt_append (l m : List UInt8) (i : Nat) (h : i < l.length) : bt (l ++ m) i = bt l i := by
  unfold bt; rw [List.getD_eq_getElem?_getD, List.getD_eq_getElem?_getD, List.getElem?_append_left h]
theorem long_append (l m : List UInt8) (h : 19 ≤ l.length) : longL (l ++ m) = longL l := by
  unfold longL; rw [bt_append _ _ _ (by omega), bt_append _ _ _ (by omega)]
theorem sub_append (l m : List UInt8) (h : 19 ≤ l.length) : subL (l ++ m) = subL l := by
  have hm : marks (l ++ m) = marks l := by unfold marks; rw [List.take_append_of_le_length (by omega)]
  unfold subL
  rw [hm, long_append _ _ h, bt_append _ _ _ (by omega)]
theorem sub_take (l : List UInt8) (h : 19 ≤ l.length) : subL (l.take 19) = subL l := by
  have := sub_append (l.take 19) (l.drop 19) (by simp; omega)
  rw [List.take_append_drop] at this
  exact this.symm
theorem long_take (l : List UInt8) (h : 19 ≤ l.length) : longL (l.take 19) = longL l := by
  have := long_append (l.take 19) (l.drop 19) (by simp; omega)
  rw [List.take_append_drop] at this
  exact this.symm

theorem cut_left : ∀ (n : Nat) (l : List UInt8), l.length ≤ n → (cut l).2.2.length ≤ l.length ∧ (cut l).1.length * 19 ≤ l.length ∧ ((cut l).2.1 ≠ 0 → (cut l).2.2 = []) ∧ (cut l).2.1 ≤ 3
  | n, l, hn => by
    by_cases h1 : l.length < 19
    · rw [cut_short h1]; simp
    · by_cases h2 : subL l = 0
      · by_cases h3 : l.length < longL l
        · rw [cut_wait (by omega) h2 h3]; simp
        · rw [cut_more (by omega) h2 (by omega)]
          have hg := long_ge h2
          match n, hn with
          | 0, hn => omega
          | n + 1, hn =>
            have ih := cut_left n (l.drop (longL l)) (by rw [List.length_drop]; omega)
            rw [List.length_drop] at ih
            simp only [List.length_cons]
            exact ⟨by omega, by omega, ih.2.2.1, ih.2.2.2⟩
      · rw [cut_bad (by omega) h2]
        refine ⟨by simp, by simp, fun _ => rfl, ?_⟩
        show subL l ≤ 3
        unfold subL
        split
        · omega
        · split
          · omega
          · split
            · omega
            · split <;> omega

theorem cut_append : ∀ (n : Nat) (l m : List UInt8), l.length ≤ n → cut (l ++ m) = if (cut l).2.1 = 0 then ((cut l).1 ++ (cut ((cut l).2.2 ++ m)).1, (cut ((cut l).2.2 ++ m)).2) else cut l
  | n, l, m, hn => by
    by_cases h1 : l.length < 19
    · rw [cut_short h1]; simp
    · by_cases h2 : subL l = 0
      · by_cases h3 : l.length < longL l
        · rw [cut_wait (by omega) h2 h3]; simp
        · have hg := long_ge h2
          rw [cut_more (l := l) (by omega) h2 (by omega)]
          rw [cut_more (l := l ++ m) (by simp; omega) (by rw [sub_append _ _ (by omega), h2]) (by rw [long_append _ _ (by omega)]; simp; omega)]
          rw [long_append _ _ (by omega), bt_append _ _ _ (by omega), List.take_append_of_le_length (by omega), List.drop_append_of_le_length (by omega)]
          match n, hn with
          | 0, hn => omega
          | n + 1, hn =>
            have ih := cut_append n (l.drop (longL l)) m (by rw [List.length_drop]; omega)
            rw [ih]
            dsimp only
            split
            · simp
            · rfl
      · rw [cut_bad (l := l) (by omega) h2, cut_bad (l := l ++ m) (by simp; omega) (by rw [sub_append _ _ (by omega)]; exact h2)]
        rw [if_neg h2, sub_append _ _ (by omega)]

theorem cut_app0 {l : List UInt8} (m : List UInt8) (h : (cut l).2.1 = 0) : cut (l ++ m) = ((cut l).1 ++ (cut ((cut l).2.2 ++ m)).1, (cut ((cut l).2.2 ++ m)).2) := by
  rw [cut_append _ l m (Nat.le_refl _), if_pos h]
theorem cut_appN {l : List UInt8} (m : List UInt8) (h : (cut l).2.1 ≠ 0) : cut (l ++ m) = cut l := by
  rw [cut_append _ l m (Nat.le_refl _), if_neg h]
theorem cut_nil : cut [] = ([], 0, []) := cut_short (by simp)

/-- A message's bytes. -/
def mk (f : Fr) : List UInt8 := List.replicate 16 255 ++ [UInt8.ofNat ((19 + f.2.length) / 256), UInt8.ofNat (19 + f.2.length), UInt8.ofNat f.1] ++ f.2
def okF (f : Fr) : Prop := f.1 < 256 ∧ 19 + f.2.length ≤ 4096 ∧ 1 ≤ f.1 ∧ f.1 ≤ 5 ∧ fitsI f.1 (19 + f.2.length : Nat) = true
theorem mk_len (f : Fr) : (mk f).length = 19 + f.2.length := by simp [mk]; omega
theorem mk_16 (f : Fr) : bt (mk f) 16 = ((19 + f.2.length) / 256) % 256 := by
  unfold bt mk
  rw [List.append_assoc, List.getD_eq_getElem?_getD, List.getElem?_append_right (by simp)]
  simp
theorem mk_17 (f : Fr) : bt (mk f) 17 = (19 + f.2.length) % 256 := by
  unfold bt mk
  rw [List.append_assoc, List.getD_eq_getElem?_getD, List.getElem?_append_right (by simp)]
  simp
theorem mk_18 (f : Fr) : bt (mk f) 18 = f.1 % 256 := by
  unfold bt mk
  rw [List.append_assoc, List.getD_eq_getElem?_getD, List.getElem?_append_right (by simp)]
  simp
theorem mk_long (f : Fr) (h : okF f) : longL (mk f) = 19 + f.2.length := by
  unfold longL; rw [mk_16, mk_17]; have := h.2.1; omega
theorem mk_sub (f : Fr) (h : okF f) : subL (mk f) = 0 := by
  have hm : marks (mk f) = true := by
    unfold marks mk
    rw [List.append_assoc, List.take_append_of_le_length (by simp)]
    decide
  unfold subL
  rw [hm, mk_long f h, mk_18, Nat.mod_eq_of_lt h.1]
  rw [if_neg (by simp), if_neg (by have := h.2.1; omega), if_neg (by have := h.2.2; omega), if_neg (by rw [h.2.2.2.2]; simp)]
theorem mk_body (f : Fr) : (mk f).drop 19 = f.2 := by
  unfold mk
  rw [List.drop_append_of_le_length (by simp)]
  simp
theorem cut_mk (f : Fr) (r : List UInt8) (h : okF f) : cut (mk f ++ r) = (f :: (cut r).1, (cut r).2) := by
  have hl := mk_len f
  rw [cut_more (by rw [List.length_append, hl]; omega) (by rw [sub_append _ _ (by omega), mk_sub f h]) (by rw [long_append _ _ (by omega), mk_long f h, List.length_append, hl]; omega)]
  rw [long_append _ _ (by omega), mk_long f h, bt_append _ _ _ (by omega), mk_18, Nat.mod_eq_of_lt h.1, ← hl, List.take_left, List.drop_left, mk_body]
theorem cut_mks (fs : List Fr) (r : List UInt8) (h : ∀ f ∈ fs, okF f) : cut ((fs.map mk).flatten ++ r) = (fs ++ (cut r).1, (cut r).2) := by
  induction fs with
  | nil => simp
  | cons f fs ih =>
    rw [List.map_cons, List.flatten_cons, List.append_assoc, cut_mk f _ (h f (by simp)), ih fun g hg => h g (by simp [hg])]
    simp
end Go.Proofs.Ytcbkmafekkhpiaa
