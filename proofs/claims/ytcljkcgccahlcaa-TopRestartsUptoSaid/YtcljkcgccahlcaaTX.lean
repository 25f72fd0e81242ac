/- TopRestarts: the plain laws of what a rib holds. No program in sight. -/
import Derived.Test.YtcljkcgccahlcaaTN
import Derived.Test.YtcljkcgccahlcaaTG
namespace Go.Proofs.Ytcljkcgccahlcaa
open Go.RowKit
set_option linter.unusedVariables false

/-- What is told. -/
structure Nl where
  p : Pl
  label : Int
instance : Inhabited Nl := ⟨⟨default, 0⟩⟩
def Nl.ok (x : Nl) : Bool := chkN x.p x.label
def nlAt (l : List Nl) (k : Nat) : Nl := l.getD k default

/-! ### Turns of a table -/
noncomputable def Tbl.mark (F : Tbl) (f : Int) : Tbl := fun p => if p.fam = f then (F p).map (fun x => { x with stale := true }) else F p
noncomputable def Tbl.minus (F : Tbl) (L : List Pl) : Tbl := fun p => if p ∈ L then none else F p
noncomputable def Tbl.marks (F : Tbl) (L : List Pl) : Tbl := fun p => if p ∈ L then (F p).map (fun x => { x with stale := true }) else F p
def Tbl.clear (F : Tbl) (f : Int) : Tbl := fun p => if p.fam = f then none else F p
def Tbl.sweep (F : Tbl) (f : Int) : Tbl := fun p => match F p with
  | some x => if p.fam = f ∧ x.stale = true then none else some x
  | none => none

theorem minus_nil (F : Tbl) : F.minus [] = F := by funext p; simp [Tbl.minus]
theorem minus_snoc (F : Tbl) (L : List Pl) (p : Pl) : (F.minus L).set p none = F.minus (L ++ [p]) := by
  funext q
  unfold Tbl.set Tbl.minus
  by_cases e : q = p
  · subst e; simp
  · simp [e]
theorem marks_nil (F : Tbl) : F.marks [] = F := by funext p; simp [Tbl.marks]
theorem marks_out {F : Tbl} {L : List Pl} {p : Pl} (h : p ∉ L) : F.marks L p = F p := by simp [Tbl.marks, h]
theorem minus_out {F : Tbl} {L : List Pl} {p : Pl} (h : p ∉ L) : F.minus L p = F p := by simp [Tbl.minus, h]
theorem marks_snoc (F : Tbl) (L : List Pl) (p : Pl) (x : To) (h : p ∉ L) (hx : F p = some x) : (F.marks L).set p (some { x with stale := true }) = F.marks (L ++ [p]) := by
  funext q
  unfold Tbl.set Tbl.marks
  by_cases e : q = p
  · subst e; simp [hx]
  · simp [e]

theorem places_clear {F : Tbl} {f : Int} {L : List Pl} (h : PlacesOf F (fun _ => true) f L) : F.minus L = F.clear f := by
  funext p
  unfold Tbl.minus Tbl.clear
  by_cases hm : p ∈ L
  · simp [hm, ((h.mem p).1 hm).1]
  · simp only [hm, if_false]
    by_cases hf : p.fam = f
    · cases hx : F p with
      | none => simp
      | some x => exact absurd ((h.mem p).2 ⟨hf, x, hx, rfl⟩) hm
    · simp [hf]
theorem places_sweep {F : Tbl} {f : Int} {L : List Pl} (h : PlacesOf F (fun x => x.stale) f L) : F.minus L = F.sweep f := by
  funext p
  unfold Tbl.minus Tbl.sweep
  by_cases hm : p ∈ L
  · obtain ⟨hf, x, hx, hs⟩ := (h.mem p).1 hm
    simp [hm, hx, hf, hs]
  · simp only [hm, if_false]
    cases hx : F p with
    | none => rfl
    | some x =>
      by_cases hc : p.fam = f ∧ x.stale = true
      · exact absurd ((h.mem p).2 ⟨hc.1, x, hx, hc.2⟩) hm
      · simp [hc]
theorem places_mark {F : Tbl} {f : Int} {L : List Pl} (h : PlacesOf F (fun _ => true) f L) : F.marks L = F.mark f := by
  funext p
  unfold Tbl.marks Tbl.mark
  by_cases hm : p ∈ L
  · simp [hm, ((h.mem p).1 hm).1]
  · simp only [hm, if_false]
    by_cases hf : p.fam = f
    · cases hx : F p with
      | none => simp
      | some x => exact absurd ((h.mem p).2 ⟨hf, x, hx, rfl⟩) hm
    · simp [hf]

/-- Families let go, one by one. -/
def Tbl.sweeps (F : Tbl) (l : List Nat) : Tbl := l.foldl (fun F (i : Nat) => F.sweep (i : Int)) F
theorem sweeps_snoc (F : Tbl) (l : List Nat) (i : Nat) : F.sweeps (l ++ [i]) = (F.sweeps l).sweep (i : Int) := by simp [Tbl.sweeps]
theorem sweep_some {F : Tbl} {f : Int} {p : Pl} {x : To} : F.sweep f p = some x ↔ F p = some x ∧ ¬ (p.fam = f ∧ x.stale = true) := by
  unfold Tbl.sweep
  cases hx : F p with
  | none => simp
  | some y =>
    by_cases hc : p.fam = f ∧ y.stale = true
    · simp only [hc, and_self, if_true]
      constructor
      · intro h; cases h
      · rintro ⟨h, hn⟩; cases h; exact absurd hc (by simpa [hc.1] using hn)
    · simp only [hc, if_false]
      constructor
      · intro h; cases h; exact ⟨rfl, hc⟩
      · rintro ⟨h, _⟩; exact h
theorem sweeps_some {p : Pl} {x : To} : ∀ {l : List Nat} {F : Tbl}, F.sweeps l p = some x ↔ F p = some x ∧ ¬ (x.stale = true ∧ ∃ i ∈ l, p.fam = (i : Int))
  | [], F => by simp [Tbl.sweeps]
  | i :: l, F => by
    show (F.sweep i).sweeps l p = some x ↔ _
    rw [sweeps_some, sweep_some]
    constructor
    · rintro ⟨⟨h1, h2⟩, h3⟩
      refine ⟨h1, ?_⟩
      rintro ⟨hs, j, hj, e⟩
      rcases List.mem_cons.1 hj with rfl | hj
      · exact h2 ⟨e, hs⟩
      · exact h3 ⟨hs, j, hj, e⟩
    · rintro ⟨h1, h2⟩
      exact ⟨⟨h1, fun ⟨e, hs⟩ => h2 ⟨hs, i, by simp, e⟩⟩, fun ⟨hs, j, hj, e⟩ => h2 ⟨hs, j, by simp [hj], e⟩⟩

/-! ### Down: what is kept is stale, what is not is gone -/
/-- Every entry is of a family. -/
def FamsIn (F : Tbl) : Prop := ∀ p x, F p = some x → 1 ≤ p.fam ∧ p.fam ≤ 5
/-- Of the families ahead of k: what is there is stale, and of a kept family. -/
structure DownTo (K : Nat → Bool) (k : Nat) (F : Tbl) : Prop where
  fams : FamsIn F
  old : ∀ p x, F p = some x → p.fam < k → x.stale = true ∧ K p.fam.toNat = true
theorem downTo_start {K : Nat → Bool} {F : Tbl} (h : FamsIn F) : DownTo K 1 F := ⟨h, fun p x hp hl => by have := h p x hp; omega⟩
theorem mark_some {F : Tbl} {f : Int} {p : Pl} {x : To} (h : F.mark f p = some x) : ∃ y, F p = some y ∧ (p.fam = f → x.stale = true) ∧ (p.fam ≠ f → x = y) := by
  unfold Tbl.mark at h
  split at h
  · rename_i hf
    obtain ⟨y, hy, rfl⟩ := Option.map_eq_some_iff.1 h
    exact ⟨y, hy, fun _ => rfl, fun hn => absurd hf hn⟩
  · rename_i hf
    exact ⟨x, h, fun e => absurd e hf, fun _ => rfl⟩
theorem DownTo.mark {K : Nat → Bool} {k : Nat} {F : Tbl} (h : DownTo K k F) (hk : K k = true) : DownTo K (k + 1) (F.mark k) := by
  refine ⟨fun p x hp => ?_, fun p x hp hl => ?_⟩
  · obtain ⟨y, hy, _⟩ := mark_some hp
    exact h.fams p y hy
  · obtain ⟨y, hy, h1, h2⟩ := mark_some hp
    by_cases e : p.fam = (k : Int)
    · refine ⟨h1 e, ?_⟩
      rw [e]; simpa using hk
    · obtain rfl := h2 e
      exact h.old p x hy (by omega)
theorem DownTo.clear {K : Nat → Bool} {k : Nat} {F : Tbl} (h : DownTo K k F) : DownTo K (k + 1) (F.clear k) := by
  have hc : ∀ p x, F.clear k p = some x → F p = some x ∧ p.fam ≠ (k : Int) := by
    intro p x hp
    unfold Tbl.clear at hp
    split at hp
    · cases hp
    · rename_i hf; exact ⟨hp, hf⟩
  refine ⟨fun p x hp => h.fams p x (hc p x hp).1, fun p x hp hl => ?_⟩
  obtain ⟨h1, h2⟩ := hc p x hp
  exact h.old p x h1 (by omega)
/-- All is stale, of kept families. -/
structure AllStale (K : Nat → Bool) (F : Tbl) : Prop where
  fams : FamsIn F
  old : ∀ p x, F p = some x → x.stale = true ∧ K p.fam.toNat = true
theorem DownTo.done {K : Nat → Bool} {F : Tbl} (h : DownTo K 6 F) : AllStale K F := ⟨h.fams, fun p x hp => h.old p x hp (by have := h.fams p x hp; omega)⟩

/-- No place of family f. -/
def NoFam (F : Tbl) (f : Int) : Prop := ∀ p x, F p = some x → p.fam ≠ f
theorem NoFam.nil {F : Tbl} {f : Int} (h : NoFam F f) {T : To → Bool} {L : List Pl} (hL : PlacesOf F T f L) : L = [] := by
  cases L with
  | nil => rfl
  | cons p L =>
    obtain ⟨hf, x, hx, _⟩ := (hL.mem p).1 (by simp)
    exact absurd hf (h p x hx)
theorem AllStale.noFam {K : Nat → Bool} {F : Tbl} (h : AllStale K F) {i : Nat} (hi : K i = false) : NoFam F (i : Int) := by
  intro p x hp e
  have := (h.old p x hp).2
  rw [e] at this
  simp [hi] at this
theorem AllStale.swept {K : Nat → Bool} {F : Tbl} (h : AllStale K F) (f : Int) : NoFam (F.sweeps (famsOf K)) f := by
  intro p x hp
  obtain ⟨h1, h2⟩ := sweeps_some.1 hp
  exfalso
  have hf := h.fams p x h1
  obtain ⟨hs, hk⟩ := h.old p x h1
  exact h2 ⟨hs, p.fam.toNat, mem_famsOf.2 ⟨⟨by omega, by omega⟩, hk⟩, by omega⟩
theorem AllStale.lose {K : Nat → Bool} {F : Tbl} (h : AllStale K F) (l : List Nat) : AllStale (dropL K l) (F.sweeps l) := by
  refine ⟨fun p x hp => h.fams p x (sweeps_some.1 hp).1, fun p x hp => ?_⟩
  obtain ⟨h1, h2⟩ := sweeps_some.1 hp
  obtain ⟨hs, hk⟩ := h.old p x h1
  refine ⟨hs, ?_⟩
  have hf := h.fams p x h1
  have : p.fam.toNat ∉ l := fun hm => h2 ⟨hs, _, hm, by omega⟩
  simp [dropL, hk, this]
theorem AllStale.lost {K : Nat → Bool} {F : Tbl} (h : AllStale K F) (l : List Nat) {i : Nat} (hi : i ∈ l) : NoFam (F.sweeps l) (i : Int) :=
  (h.lose l).noFam (by simp [dropL, hi])

/-! ### What is told anew -/
def newTo (l : List Nl) (k : Nat) : To := ⟨(nlAt l k).label, 2, true, (k : Int), false⟩
/-- The first i of the list are told anew. -/
structure FreshTo (l : List Nl) (K : Nat → Bool) (i : Nat) (F : Tbl) : Prop where
  back : ∀ p x, F p = some x → (1 ≤ p.fam ∧ p.fam ≤ 5) ∧ ((x.stale = true ∧ K p.fam.toNat = true) ∨ ∃ k, k < i ∧ (nlAt l k).ok = true ∧ (nlAt l k).p = p ∧ x = newTo l k)
  there : ∀ k, k < i → (nlAt l k).ok = true → ∃ x, F (nlAt l k).p = some x ∧ x.stale = false
theorem AllStale.fresh {K : Nat → Bool} {F : Tbl} (h : AllStale K F) (l : List Nl) : FreshTo l K 0 F :=
  ⟨fun p x hp => ⟨h.fams p x hp, .inl (h.old p x hp)⟩, fun k hk => by omega⟩
theorem FreshTo.no {l : List Nl} {K : Nat → Bool} {i : Nat} {F : Tbl} (h : FreshTo l K i F) (hn : (nlAt l i).ok = false) : FreshTo l K (i + 1) F := by
  refine ⟨fun p x hp => ⟨(h.back p x hp).1, (h.back p x hp).2.imp id fun ⟨k, a, b⟩ => ⟨k, by omega, b⟩⟩, fun k hk ho => ?_⟩
  by_cases e : k = i
  · subst e; rw [hn] at ho; cases ho
  · exact h.there k (by omega) ho
theorem FreshTo.yes {l : List Nl} {K : Nat → Bool} {i : Nat} {F : Tbl} (h : FreshTo l K i F) (hy : (nlAt l i).ok = true) : FreshTo l K (i + 1) (F.set (nlAt l i).p (some (newTo l i))) := by
  refine ⟨fun p x hp => ?_, fun k hk ho => ?_⟩
  · by_cases e : p = (nlAt l i).p
    · subst e
      rw [F.set_same] at hp
      cases hp
      exact ⟨chkN_fam hy, .inr ⟨i, by omega, hy, rfl, rfl⟩⟩
    · rw [F.set_other _ e] at hp
      exact ⟨(h.back p x hp).1, (h.back p x hp).2.imp id fun ⟨k, a, b⟩ => ⟨k, by omega, b⟩⟩
  · by_cases e : (nlAt l k).p = (nlAt l i).p
    · rw [e, F.set_same]
      exact ⟨_, rfl, rfl⟩
    · rw [F.set_other _ e]
      by_cases e2 : k = i
      · subst e2; exact absurd rfl e
      · exact h.there k (by omega) ho

/-! ### How many -/
/-- The places of those that may be, each once: of the first i. -/
noncomputable def uniq (l : List Nl) : Nat → List Pl
  | 0 => []
  | i + 1 => if (nlAt l i).ok = true ∧ (nlAt l i).p ∉ uniq l i then uniq l i ++ [(nlAt l i).p] else uniq l i
theorem uniq_mem {l : List Nl} {p : Pl} : ∀ {i : Nat}, p ∈ uniq l i ↔ ∃ k, k < i ∧ (nlAt l k).ok = true ∧ (nlAt l k).p = p
  | 0 => by simp [uniq]
  | i + 1 => by
    unfold uniq
    have ih := @uniq_mem l p i
    split
    · rename_i hc
      rw [List.mem_append, ih]
      constructor
      · rintro (⟨k, a, b⟩ | hq)
        · exact ⟨k, by omega, b⟩
        · exact ⟨i, by omega, hc.1, (List.mem_singleton.1 hq).symm⟩
      · rintro ⟨k, a, b, c⟩
        by_cases e : k = i
        · subst e; right; simp [c]
        · left; exact ⟨k, by omega, b, c⟩
    · rename_i hc
      rw [ih]
      constructor
      · rintro ⟨k, a, b⟩; exact ⟨k, by omega, b⟩
      · rintro ⟨k, a, b, c⟩
        by_cases e : k = i
        · subst e
          have hin : (nlAt l k).p ∈ uniq l k := Classical.byContradiction fun hn => hc ⟨b, hn⟩
          rw [c] at hin
          exact ih.1 hin
        · exact ⟨k, by omega, b, c⟩
theorem uniq_nodup {l : List Nl} : ∀ i, (uniq l i).Nodup
  | 0 => List.nodup_nil
  | i + 1 => by
    unfold uniq
    split
    · rename_i hc
      exact List.nodup_append.2 ⟨uniq_nodup i, by simp, fun a ha b hb e => hc.2 (by simp at hb; rw [← hb, ← e]; exact ha)⟩
    · exact uniq_nodup i
theorem uniq_len {l : List Nl} : ∀ i, (uniq l i).length ≤ i
  | 0 => Nat.le_refl _
  | i + 1 => by
    have := uniq_len (l := l) i
    unfold uniq
    split
    · simp; omega
    · omega

/-- How many of the families ahead of k. -/
noncomputable def many (l : List Nl) (k : Nat) : Nat := ((uniq l l.length).filter fun p => decide (p.fam < (k : Int))).length
theorem many_one (l : List Nl) : many l 1 = 0 := by
  unfold many
  rw [List.length_eq_zero_iff, List.filter_eq_nil_iff]
  intro p hp
  obtain ⟨k, _, ho, rfl⟩ := uniq_mem.1 hp
  have := chkN_fam ho
  simp; omega
theorem many_six (l : List Nl) : many l 6 = (uniq l l.length).length := by
  unfold many
  rw [List.filter_eq_self.2]
  intro p hp
  obtain ⟨k, _, ho, rfl⟩ := uniq_mem.1 hp
  have := chkN_fam ho
  simp; omega
theorem filter_split (k : Int) : ∀ D : List Pl, (D.filter fun p => decide (p.fam < k + 1)).length = (D.filter fun p => decide (p.fam < k)).length + (D.filter fun p => decide (p.fam = k)).length
  | [] => rfl
  | p :: D => by
    have ih := filter_split k D
    simp only [List.filter_cons]
    by_cases h1 : p.fam < k
    · have h2 : p.fam < k + 1 := by omega
      have h3 : ¬ p.fam = k := by omega
      simp [h1, h2, h3, ih]; omega
    · by_cases h3 : p.fam = k
      · have h2 : p.fam < k + 1 := by omega
        rw [decide_eq_false h1, decide_eq_true h2, decide_eq_true h3]
        simp; omega
      · have h2 : ¬ p.fam < k + 1 := by omega
        simp [h1, h2, h3, ih]
theorem many_succ (l : List Nl) (k : Nat) : many l (k + 1) = many l k + ((uniq l l.length).filter fun p => decide (p.fam = (k : Int))).length := by
  unfold many
  have := filter_split (k : Int) (uniq l l.length)
  rw [← this]
  norm_cast

/-- The families ahead of k have been told to their ends. -/
structure EndsTo (l : List Nl) (K : Nat → Bool) (k : Nat) (F : Tbl) : Prop where
  back : ∀ p x, F p = some x → (1 ≤ p.fam ∧ p.fam ≤ 5) ∧ ((x.stale = true ∧ K p.fam.toNat = true) ∨ ∃ k, k < l.length ∧ (nlAt l k).ok = true ∧ (nlAt l k).p = p ∧ x = newTo l k)
  there : ∀ k, k < l.length → (nlAt l k).ok = true → ∃ x, F (nlAt l k).p = some x ∧ x.stale = false
theorem FreshTo.ends {l : List Nl} {K : Nat → Bool} {F : Tbl} (h : FreshTo l K l.length F) : EndsTo l K 1 F := ⟨h.back, h.there⟩
/-- Swept of family k: nothing stale of it is left. -/
theorem EndsTo.sweep {l : List Nl} {K : Nat → Bool} {k : Nat} {F : Tbl} (h : EndsTo l K k F) (f : Nat) : EndsTo l (upd K f false) (k + 1) (F.sweep (f : Int)) := by
  refine ⟨fun p x hp => ?_, fun j hj ho => ?_⟩
  · obtain ⟨h1, h2⟩ := sweep_some.1 hp
    obtain ⟨hf, hb⟩ := h.back p x h1
    refine ⟨hf, hb.imp (fun ⟨hs, hk⟩ => ⟨hs, ?_⟩) id⟩
    have : p.fam.toNat ≠ f := fun e => h2 ⟨by omega, hs⟩
    simp [upd, this, hk]
  · obtain ⟨x, hx, hs⟩ := h.there j hj ho
    exact ⟨x, sweep_some.2 ⟨hx, fun hc => by rw [hs] at hc; cases hc.2⟩, hs⟩
theorem upd_none {K : Nat → Bool} {f : Nat} (h : K f = false) : upd K f false = K := by
  funext i
  unfold upd
  split
  · rename_i e; rw [e, h]
  · rfl
theorem EndsTo.next {l : List Nl} {K : Nat → Bool} {k j : Nat} {F : Tbl} (h : EndsTo l K k F) : EndsTo l K j F := ⟨h.back, h.there⟩
/-- What All tells of a family of which nothing is stale. -/
theorem EndsTo.at_ {l : List Nl} {K : Nat → Bool} {k : Nat} {F : Tbl} (h : EndsTo l K k F) {f : Nat} (hf : K f = false) {p : Pl} {x : To} (hp : F p = some x) (hpf : p.fam = (f : Int)) :
    ∃ j, j < l.length ∧ (nlAt l j).ok = true ∧ (nlAt l j).p = p ∧ x = newTo l j := by
  rcases (h.back p x hp).2 with ⟨_, hk⟩ | h2
  · rw [hpf] at hk; simp [hf] at hk
  · exact h2
theorem EndsTo.count {l : List Nl} {K : Nat → Bool} {k : Nat} {F : Tbl} (h : EndsTo l K k F) {f : Nat} (hf : K f = false) {L : List Pl} (hL : PlacesOf F (fun _ => true) (f : Int) L) : many l f + L.length = many l (f + 1) := by
  rw [many_succ]
  congr 1
  refine List.Perm.length_eq ?_
  refine (List.perm_ext_iff_of_nodup hL.nodup ((uniq_nodup _).filter _)).2 fun p => ?_
  rw [hL.mem, List.mem_filter, uniq_mem]
  constructor
  · rintro ⟨e, x, hx, _⟩
    obtain ⟨j, a, b, c, _⟩ := h.at_ hf hx e
    exact ⟨⟨j, a, b, c⟩, by simpa using e⟩
  · rintro ⟨⟨j, a, b, c⟩, e⟩
    obtain ⟨x, hx, _⟩ := h.there j a b
    rw [c] at hx
    exact ⟨by simpa using e, x, hx, rfl⟩
end Go.Proofs.Ytcljkcgccahlcaa
