/- A region that draws its order, by an invariant; the region of Down and Up that reads what a session says, twice. -/
import Derived.Test.YtcljkcgccahlcaaD
import Derived.Deep.DeepCutAuto
namespace Go.Proofs.Ytcljkcgccahlcaa
open Go.RowKit
set_option linter.unusedVariables false

section
variable {P : Program} {ops : Array Oper} {Q : Exit → Act → World → Prop} {md : Region.Mode}

/-- How many have not come up. -/
def left_ (l : Array Bool) : Nat := (l.toList.filter (! ·)).length
theorem filt_set : ∀ (l : List Bool) (i : Nat), l[i]? = some false → ((l.set i true).filter (! ·)).length + 1 = (l.filter (! ·)).length
  | [], i, h => by simp at h
  | b :: l, 0, h => by simp at h; subst h; simp
  | b :: l, i + 1, h => by
    have := filt_set l i (by simpa using h)
    cases b <;> simp <;> simp at this <;> omega
theorem left_set {l : Array Bool} {i : Nat} (h : l.getD i true = false) : left_ (l.setIfInBounds i true) + 1 = left_ l := by
  have hi : i < l.size := by
    rcases Nat.lt_or_ge i l.size with h' | h'
    · exact h'
    · simp [Array.getElem?_eq_none h'] at h
  unfold left_
  rw [Array.toList_setIfInBounds]
  exact filt_set _ _ (by simpa [hi] using h)

/-- Where nothing may come up any more, all has come up (each operation waits for earlier ones alone). -/
theorem all_listed (hed : ∀ (j : Nat) (o : Oper), ops[j]? = some o → ∀ e, e ∈ o.after → e.on < j) {l : Array Bool} (hs : l.size = ops.size) (hr : Region.ready md ops l = []) : ∀ (n j : Nat), j < n → j < ops.size → l.getD j false = true
  | 0, j, h, _ => by omega
  | n + 1, j, h, hj => by
    cases hv : l.getD j false with
    | true => rfl
    | false =>
      exfalso
      have hm : j ∈ Region.ready md ops l := by
        refine mem_ready.2 ⟨?_, ops[j], by simp [hj], fun e he _ => ?_⟩
        · have : j < l.size := by omega
          simpa [this] using hv
        · have := hed j ops[j] (by simp [hj]) e he
          exact all_listed hed hs hr n e.on (by omega) (by omega)
      rw [hr] at hm
      cases hm

/-- WHATEVER THE ORDER: what holds at the beginning, and is handed on by each operation that may come up, holds at the end. -/
theorem wpAny_inv (hed : ∀ (j : Nat) (o : Oper), ops[j]? = some o → ∀ e, e ∈ o.after → e.on < j) (I : Array Bool → Act → World → Prop) (hst : ∀ i listed a w, i ∈ Region.ready md ops listed → I listed a w → wpOp P ops Q i (I (listed.setIfInBounds i true)) a w)
    (hdn : ∀ listed a w, (∀ j, j < ops.size → listed.getD j false = true) → I listed a w → Q .normal a w) :
    ∀ fuel listed a w, listed.size = ops.size → left_ listed ≤ fuel → I listed a w → wpAny P md ops Q fuel listed a w
  | 0, listed, a, w, hs, hl, h => by
    have hr : Region.ready md ops listed = [] := by
      rw [List.eq_nil_iff_forall_not_mem]
      intro i hi
      have := left_set (mem_ready.1 hi).1
      omega
    exact ⟨hr, hdn _ _ _ (fun j hj => all_listed hed hs hr (j + 1) j (by omega) hj) h⟩
  | fuel + 1, listed, a, w, hs, hl, h =>
    ⟨fun hr => hdn _ _ _ (fun j hj => all_listed hed hs hr (j + 1) j (by omega) hj) h, fun i hi => wpOp_mono (fun a' w' h' => wpAny_inv hed I hst hdn fuel _ a' w' (by simpa using hs) (by have := left_set (mem_ready.1 hi).1; omega) h') (hst i listed a w hi h)⟩

theorem wpOp_of {i : Nat} {o : Oper} {K : Act → World → Prop} {a : Act} {w : World} (ho : ops[i]? = some o) (hg : o.guard = none) (h : o.wp P a w K Q) : wpOp P ops Q i K a w := by
  unfold wpOp
  rw [ho]
  have hw : Region.wanted o (yielded ops a.tmps) = true := by simp [Region.wanted, hg]
  simp only [hw, if_true]
  exact .inl h

theorem left_replicate (n : Nat) : left_ (Array.replicate n false) ≤ n := by
  unfold left_
  exact Nat.le_trans (List.length_filter_le _ _) (by simp)
end

theorem getD_of_set {l : Array Bool} {i j : Nat} (h : (l.setIfInBounds i true).getD j false = true) : j = i ∨ l.getD j false = true := by
  by_cases e : i = j
  · exact .inl e.symm
  · rw [getD_set_ne false e] at h; exact .inr h

theorem tmps_put_same (a : Act) (d : Nat) (v : Value) (hd : d < a.tmps.size) : (a.put (some d) v).tmps.getD d undef = v := by simp [Act.put, hd]
theorem tmps_put_ne (a : Act) (d j : Nat) (v : Value) (h : j ≠ d) : (a.put (some d) v).tmps.getD j undef = a.tmps.getD j undef := by
  simp [Act.put, Array.getElem?_setIfInBounds_ne (Ne.symm h)]

/-- Operation i waits for operation p. -/
def After (ops : Array Oper) (i p : Nat) : Prop := ((ops[i]?).map fun o => o.after.toList.any fun e => Region.binds .any e && e.on == p) = some true
theorem After.listed {ops : Array Oper} {i p : Nat} {l : Array Bool} (h : After ops i p) (hr : i ∈ Region.ready .any ops l) : l.getD p false = true := by
  obtain ⟨_, o', ho', hall⟩ := mem_ready.1 hr
  unfold After at h
  rw [ho'] at h
  simp only [Option.map_some, Option.some.injEq, List.any_eq_true, Bool.and_eq_true, beq_iff_eq] at h
  obtain ⟨e, he, hb, rfl⟩ := h
  exact hall e (by simpa using he) hb

/-- Each operation waits for earlier ones alone. -/
def Early (ops : Array Oper) : Prop := ((List.range ops.size).all fun j => ((ops[j]?).map fun o => o.after.toList.all fun e => decide (e.on < j)).getD true) = true
theorem Early.edges {ops : Array Oper} (h : Early ops) : ∀ (j : Nat) (o : Oper), ops[j]? = some o → ∀ e, e ∈ o.after → e.on < j := by
  intro j o ho e he
  unfold Early at h
  rw [List.all_eq_true] at h
  have hj : j < ops.size := (Array.getElem?_eq_some_iff.1 ho).1
  have := h j (by simpa using hj)
  rw [ho] at this
  simp only [Option.map_some, Option.getD_some, List.all_eq_true, decide_eq_true_eq] at this
  exact this e (by simpa using he)

/-- The slots of the region: the two loads, the two answers, the two variables. -/
structure Slots where
  l1 : Nat
  r1 : Nat
  l2 : Nat
  r2 : Nat
  v1 : Nat
  v2 : Nat

def Slots.list (s : Slots) : List Nat := [s.l1, s.r1, s.l2, s.r2, s.v1, s.v2]

/-- What holds when operation j has come up. -/
def Fct (s : Slots) (B : Nat) (c : Array Value) (f g : Nat → Bool) (a : Act) (w : World) : Nat → Prop
  | 0 => a.tmps.getD s.l1 undef = .agg c
  | 1 => a.tmps.getD s.r1 undef = .agg (fC f)
  | 2 => a.tmps.getD s.l2 undef = .agg c
  | 3 => a.tmps.getD s.r2 undef = .agg (fC g)
  | 4 => ∃ x cs, a.tmps.getD s.v1 undef = .pointer (some ⟨x, 0, none⟩) ∧ B ≤ x ∧ w.heap[x]? = some (.cells cs 78 (0, 0)) ∧ cs.size = 6
  | 5 => ∃ x cs, a.tmps.getD s.v2 undef = .pointer (some ⟨x, 0, none⟩) ∧ B ≤ x ∧ w.heap[x]? = some (.cells cs 78 (0, 0)) ∧ cs.size = 6
  | 6 => ∃ x, a.tmps.getD s.v1 undef = .pointer (some ⟨x, 0, none⟩) ∧ w.heap[x]? = some (.cells (fC f) 78 (0, 0))
  | 7 => ∃ x, a.tmps.getD s.v2 undef = .pointer (some ⟨x, 0, none⟩) ∧ w.heap[x]? = some (.cells (fC g) 78 (0, 0))
  | _ => True

/-- What the frame and the world are throughout. -/
structure Thru (s : Slots) (B : Nat) (W : World) (a0 a : Act) (w : World) : Prop where
  defers : a.defers = a0.defers
  size : a.tmps.size = a0.tmps.size
  rest : ∀ j, j ∉ s.list → a.tmps.getD j undef = a0.tmps.getD j undef
  bel : Below B W w
  x1 : ∀ x, a.tmps.getD s.v1 undef = .pointer (some ⟨x, 0, none⟩) → x < w.heap.size
  x2 : ∀ x, a.tmps.getD s.v2 undef = .pointer (some ⟨x, 0, none⟩) → x < w.heap.size
  ne : ∀ x, a.tmps.getD s.v1 undef = .pointer (some ⟨x, 0, none⟩) → a.tmps.getD s.v2 undef ≠ .pointer (some ⟨x, 0, none⟩)

structure PInv (s : Slots) (B : Nat) (W : World) (c : Array Value) (f g : Nat → Bool) (a0 : Act) (l : Array Bool) (a : Act) (w : World) : Prop where
  thru : Thru s B W a0 a w
  o6 : l.getD 6 false = true → l.getD 4 false = true
  o7 : l.getD 7 false = true → l.getD 5 false = true
  fct : ∀ j, l.getD j false = true → Fct s B c f g a w j

theorem PInv.step {s : Slots} {B : Nat} {W : World} {c : Array Value} {f g : Nat → Bool} {a0 : Act} {l : Array Bool} {a a' : Act} {w w' : World} (h : PInv s B W c f g a0 l a w) (i : Nat) (hi : i < 8)
    (ht : Thru s B W a0 a' w') (h6 : i = 6 → l.getD 4 false = true) (h7 : i = 7 → l.getD 5 false = true) (hn : Fct s B c f g a' w' i)
    (hk : ∀ j, j < 8 → j ≠ i → (i = 4 → j ≠ 6) → (i = 5 → j ≠ 7) → Fct s B c f g a w j → Fct s B c f g a' w' j) (hl : l.getD i true = false) : PInv s B W c f g a0 (l.setIfInBounds i true) a' w' := by
  refine ⟨ht, fun h' => ?_, fun h' => ?_, fun j hj => ?_⟩
  · rcases getD_of_set h' with e | h''
    · exact getD_set_true (h6 e.symm)
    · exact getD_set_true (h.o6 h'')
  · rcases getD_of_set h' with e | h''
    · exact getD_set_true (h7 e.symm)
    · exact getD_set_true (h.o7 h'')
  · rcases getD_of_set hj with rfl | h'
    · exact hn
    · by_cases h8 : j < 8
      · by_cases e : j = i
        · subst e; exact hn
        · refine hk j h8 e (fun h4 h6' => ?_) (fun h5 h7' => ?_) (h.fct j h')
          · subst h6'; have := h.o6 h'; rw [← h4] at this; simp [Array.getD_eq_getD_getElem?] at hl this; cases hx : l[i]? <;> simp [hx] at hl this; simp [hl] at this
          · subst h7'; have := h.o7 h'; rw [← h5] at this; simp [Array.getD_eq_getD_getElem?] at hl this; cases hx : l[i]? <;> simp [hx] at hl this; simp [hl] at this
      · match j, h8 with
        | j + 8, _ => trivial

def slotsOf (s : Slots) : Nat → List Nat
  | 0 => [s.l1] | 1 => [s.r1] | 2 => [s.l2] | 3 => [s.r2] | 4 => [s.v1] | 5 => [s.v2] | 6 => [s.v1] | 7 => [s.v2] | _ => []

theorem fct_keep {s : Slots} {B : Nat} {c : Array Value} {f g : Nat → Bool} {a a' : Act} {w w' : World} (j : Nat) (hs : ∀ k ∈ slotsOf s j, a'.tmps.getD k undef = a.tmps.getD k undef)
    (hw : ∀ x, x < w.heap.size → w'.heap[x]? = w.heap[x]?) (h : Fct s B c f g a w j) : Fct s B c f g a' w' j := by
  match j with
  | 0 => exact (hs _ (by simp [slotsOf])).trans h
  | 1 => exact (hs _ (by simp [slotsOf])).trans h
  | 2 => exact (hs _ (by simp [slotsOf])).trans h
  | 3 => exact (hs _ (by simp [slotsOf])).trans h
  | 4 => obtain ⟨x, cs, h1, h2, h3, h4⟩ := h; exact ⟨x, cs, (hs _ (by simp [slotsOf])).trans h1, h2, (hw x (lt_of_block h3)).trans h3, h4⟩
  | 5 => obtain ⟨x, cs, h1, h2, h3, h4⟩ := h; exact ⟨x, cs, (hs _ (by simp [slotsOf])).trans h1, h2, (hw x (lt_of_block h3)).trans h3, h4⟩
  | 6 => obtain ⟨x, h1, h3⟩ := h; exact ⟨x, (hs _ (by simp [slotsOf])).trans h1, (hw x (lt_of_block h3)).trans h3⟩
  | 7 => obtain ⟨x, h1, h3⟩ := h; exact ⟨x, (hs _ (by simp [slotsOf])).trans h1, (hw x (lt_of_block h3)).trans h3⟩
  | j + 8 => trivial

/-- A put into a slot of the region that is no variable. -/
theorem Thru.put {s : Slots} {B : Nat} {W : World} {a0 a : Act} {w w' : World} (h : Thru s B W a0 a w) (d : Nat) (v : Value) (hd : d ∈ s.list) (h1 : d ≠ s.v1) (h2 : d ≠ s.v2) (hb : Below w.heap.size w w') (hB : B ≤ w.heap.size) : Thru s B W a0 (a.put (some d) v) w' := by
  refine ⟨h.defers, by simp [Act.put, h.size], fun j hj => ?_, h.bel.trans (hb.mono hB), fun x hx => ?_, fun x hx => ?_, fun x hx => ?_⟩
  · rw [tmps_put_ne _ _ _ _ (fun e => hj (by rw [e]; exact hd))]; exact h.rest j hj
  · rw [tmps_put_ne _ _ _ _ h1.symm] at hx; exact Nat.lt_of_lt_of_le (h.x1 x hx) hb.size
  · rw [tmps_put_ne _ _ _ _ h2.symm] at hx; exact Nat.lt_of_lt_of_le (h.x2 x hx) hb.size
  · rw [tmps_put_ne _ _ _ _ h1.symm] at hx; rw [tmps_put_ne _ _ _ _ h2.symm]; exact h.ne x hx

theorem nodup_ne {s : Slots} (h : s.list.Nodup) : s.l1 ≠ s.r1 ∧ s.l1 ≠ s.l2 ∧ s.l1 ≠ s.r2 ∧ s.l1 ≠ s.v1 ∧ s.l1 ≠ s.v2 ∧ s.r1 ≠ s.l2 ∧ s.r1 ≠ s.r2 ∧ s.r1 ≠ s.v1 ∧ s.r1 ≠ s.v2 ∧ s.l2 ≠ s.r2 ∧ s.l2 ≠ s.v1 ∧ s.l2 ≠ s.v2 ∧ s.r2 ≠ s.v1 ∧ s.r2 ≠ s.v2 ∧ s.v1 ≠ s.v2 := by
  simp [Slots.list] at h
  obtain ⟨⟨a1, a2, a3, a4, a5⟩, ⟨b1, b2, b3, b4⟩, ⟨c1, c2, c3⟩, ⟨d1, d2⟩, e1⟩ := h
  exact ⟨a1, a2, a3, a4, a5, b1, b2, b3, b4, c1, c2, c3, d1, d2, e1⟩

/-- What the frame is then: as it was, but for the region's slots. -/
theorem set_back (t : Array Value) : ∀ (L : List Nat) (t0 : Array Value), t.size = t0.size → (∀ j, j ∉ L → t.getD j undef = t0.getD j undef) → t = L.foldl (fun u j => u.setIfInBounds j (t.getD j undef)) t0
  | [], t0, hs, h => by
    rw [List.foldl_nil]
    apply Array.ext hs
    intro i h1 h2
    have := h i (by simp)
    simpa [h1, h2] using this
  | j :: L, t0, hs, h => by
    rw [List.foldl_cons]
    refine set_back t L _ (by simpa using hs) (fun i hi => ?_)
    by_cases e : i = j
    · subst e
      by_cases hlt : i < t0.size
      · simp [hlt]
      · have h1 : t[i]? = none := Array.getElem?_eq_none (by omega)
        simp [hlt, h1]
    · rw [h i (by simp [e, hi])]
      simp [Array.getElem?_setIfInBounds_ne (Ne.symm e)]

theorem frame_is {a a0 : Act} (hs : a.tmps.size = a0.tmps.size) (hd : a.defers = a0.defers) (L : List Nat) (hr : ∀ j, j ∉ L → a.tmps.getD j undef = a0.tmps.getD j undef) :
    a = { tmps := L.foldl (fun u j => u.setIfInBounds j (a.tmps.getD j undef)) a0.tmps, defers := a0.defers } := by
  have h := set_back a.tmps L a0.tmps hs hr
  cases a
  simp only at h hd ⊢
  rw [← h, hd]

end Go.Proofs.Ytcljkcgccahlcaa
