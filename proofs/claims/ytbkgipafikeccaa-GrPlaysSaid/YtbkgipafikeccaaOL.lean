/- gr: what Up and Fire let go, as a list that is read. -/
import Derived.Test.YtbkgipafikeccaaOA
namespace Go.Proofs.Ytbkgipafikeccaa
open Go.RowKit
set_option linter.unusedVariables false

structure Lets (W w' : World) (b : Nat) (st : Nat → Bool) (e : Int) (v : Value) (L : List Nat) : Prop where
  rd : Rd w' v (nums L)
  own : ∀ g, v.ownBlock = some g → W.heap.size ≤ g
  nodup : L.Nodup
  mem : ∀ i ∈ L, 1 ≤ i ∧ i ≤ 5 ∧ st i = true
  h : IsH w' b (dropL st L) e
  but : But b W w'

theorem famsOf_nodup (p : Nat → Bool) : (famsOf p).Nodup := by
  unfold famsOf famsTo
  exact ((List.nodup_range (n := 6)).sublist (List.drop_sublist 1 _)).sublist List.filter_sublist

theorem fire_lets (b : Nat) (now : Int) (st : Nat → Bool) (e : Int) (w : World) (h : IsH w b st e) :
    Calls Try.prog 13 #[.pointer (some ⟨b, 0, none⟩), .int .u64 now] w fun r w' => ∃ a c L, r = .returned (.slice a (L : List Nat).length c) ∧ Lets w w' b st e (.slice a L.length c) L := by
  by_cases hlt : now < e
  · refine (fire_before b now st e hlt _ h).mono ?_
    rintro r w' ⟨rfl, rfl⟩
    refine ⟨none, 0, [], rfl, rd_nil w, ?_, List.nodup_nil, ?_, ?_, But.refl _ _⟩
    · intro g hg
      cases hg
    · intro i hi
      cases hi
    · rw [dropL_nil]
      exact h
  · refine (fire_behind b now st e (by omega) _ h).mono ?_
    rintro r w' ⟨v, rfl, ho, hh, hb⟩
    have hg := own_ge ho
    have hr := own_rd ho rfl
    obtain ⟨a, c, rfl⟩ := own_form ho
    exact ⟨a, c, famsOf st, rfl, ⟨hr, hg, famsOf_nodup st, fun i hi => by have := mem_famsOf.1 hi; exact ⟨this.1.1, this.1.2, this.2⟩, hh, hb⟩⟩

theorem up_lets (b : Nat) (st : Nat → Bool) (e0 : Int) (oc c : Array Value) (o : Bool) (F : List Int) (K : List (Int × Bool)) (gr : Bool) (time : Int) (w : World) (h : IsH w b st e0) (hs : Ses w c F K gr time) (hoc : oc[7]? = some (.bool o)) :
    Calls Try.prog 11 #[.pointer (some ⟨b, 0, none⟩), .agg oc, .agg c] w fun r w' => ∃ a cp L, L = famsOf (goneU st F K o) ∧ r = .returned (.slice a (L : List Nat).length cp) ∧ Lets w w' b st e0 (.slice a L.length cp) L := by
  refine (up_any b st e0 oc c o F K gr time w h hs hoc).mono ?_
  rintro r w' ⟨v, rfl, ho, hh, hb⟩
  have hg := own_ge ho
  have hr := own_rd ho rfl
  obtain ⟨a, cp, rfl⟩ := own_form ho
  exact ⟨a, cp, famsOf (goneU st F K o), rfl, rfl, ⟨hr, hg, famsOf_nodup _, fun i hi => by have := mem_famsOf.1 hi; refine ⟨this.1.1, this.1.2, ?_⟩; have h2 := this.2; unfold goneU at h2; simp only [Bool.and_eq_true] at h2; exact h2.1, hh, hb⟩⟩

/-- A step of a loop that lets go: what stands at k. -/
theorem Lets.at_ {W w' : World} {b : Nat} {st : Nat → Bool} {e : Int} {v : Value} {L : List Nat} (h : Lets W w' b st e v L) {k : Nat} (hk : k < L.length) :
    ∃ a, L[k]? = some a ∧ 1 ≤ a ∧ a ≤ 5 ∧ st a = true ∧ (L.take k).contains a = false ∧ L.take (k + 1) = L.take k ++ [a] := by
  have hm := h.mem L[k] (List.getElem_mem hk)
  refine ⟨L[k], List.getElem?_eq_getElem hk, hm.1, hm.2.1, hm.2.2, ?_, List.take_succ_eq_append_getElem hk⟩
  rw [← Bool.not_eq_true, List.contains_iff_mem]
  intro hin
  obtain ⟨i, hi, he⟩ := List.getElem_of_mem hin
  have hik : i < k := by simp at hi; omega
  rw [List.getElem_take] at he
  exact (List.pairwise_iff_getElem.1 h.nodup) i k (by omega) hk hik he
theorem fC_drop (sl : Nat → Bool) (L : List Nat) (k a : Nat) (ha : a ≤ 5) (h : L.take (k + 1) = L.take k ++ [a]) : (fC (dropL sl (L.take k))).setIfInBounds a (.bool false) = fC (dropL sl (L.take (k + 1))) := by
  rw [fC_set _ _ a (by omega), dropL_snoc, h]
theorem agree_drop {sl st : Nat → Bool} (h : Agree sl st) (L : List Nat) : Agree (dropL sl L) (dropL st L) := by
  intro i h1 h5
  unfold dropL
  rw [h i h1 h5]
theorem drop_up {st : Nat → Bool} {F : List Int} {K : List (Int × Bool)} {o : Bool} {j : Nat} (h1 : 1 ≤ j) (h5 : j ≤ 5) (h : dropL st (famsOf (goneU st F K o)) j = true) : o = true ∧ ofP F j = true := by
  unfold dropL at h
  simp only [Bool.and_eq_true, Bool.not_eq_true', List.contains_eq_mem, decide_eq_false_iff_not] at h
  have hn : goneU st F K o j ≠ true := fun hg => h.2 (mem_famsOf.2 ⟨⟨h1, h5⟩, hg⟩)
  unfold goneU at hn
  rw [h.1] at hn
  cases o <;> cases hF : ofP F j <;> simp [hF] at hn ⊢
end Go.Proofs.Ytbkgipafikeccaa
