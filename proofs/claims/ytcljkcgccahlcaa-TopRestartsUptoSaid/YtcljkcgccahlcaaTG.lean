/- (*Rib).places: its parts. -/
import Derived.Test.YtcljkcgccahlcaaTF
namespace Go.Proofs.Ytcljkcgccahlcaa
open Go.RowKit Go.Sort Go.Lib Go.Shelf
set_option linter.unusedVariables false

/-- What a function tells of what is told. -/
def Asks (g : FuncId) (T : To → Bool) : Prop := ∀ x W, Calls Try.prog g #[.agg x.cells] W fun e w' => e = .returned (.bool (T x)) ∧ Below W.heap.size W w'

theorem run_load_to (w : World) (g : Nat) (x : To) (t : TypeId) (h : w.heap[g]? = some (.cells x.cells t (0, 0))) : (loadVar 85 ⟨g, 0, none⟩).run Try.prog w = .ok (.agg x.cells) w :=
  run_loadVar_row w g t 85 x.cells (0, 0) _ h Try.underlying85 rfl (by kernel_rfl)

theorem asks_all : Asks 35 (fun _ => true) := by
  intro x W
  go_enter Try.func35, Try.ntmps35
  go_wp2
  go_ret
  exact ⟨rfl, by first | exact Below.refl _ _ | exact (Below.refl _ _).alloc (Nat.le_refl _) _⟩

theorem asks_stale : Asks 43 (fun x => x.stale) := by
  intro x W
  have hc : (W.alloc (.cells x.cells 85)).cell? ⟨W.heap.size, 17, none⟩ = some (.bool x.stale) := by simp [To.cells]
  have hz := heap_alloc_new W (.cells x.cells 85)
  go_enter Try.func43, Try.ntmps43
  go_wp2
  go_ret
  exact ⟨rfl, (Below.refl _ _).alloc (Nat.le_refl _) _⟩

def plC (L : List Pl) : List Value := L.flatMap fun p => p.val.toList
theorem plC_snoc (L : List Pl) (p : Pl) : plC (L ++ [p]) = plC L ++ p.val.toList := by simp [plC]
theorem plC_len (L : List Pl) : (plC L).length = L.length * 5 := by
  induction L with
  | nil => rfl
  | cons p L ih => 
    have : plC (p :: L) = p.val.toList ++ plC L := rfl
    rw [this, List.length_append, ih, List.length_cons]
    simp [Pl.val]; omega

/-- The places that have come: those of family fam of which T holds. -/
structure Sofar (F : Tbl) (T : To → Bool) (fam : Int) (left : Lit → Bool) (L : List Pl) : Prop where
  nodup : L.Nodup
  mem : ∀ p, p ∈ L ↔ p.fam = fam ∧ (∃ x, F p = some x ∧ T x = true) ∧ left p.kl = false

theorem step_fact {D : DataW Value} {F : Tbl} (hL : Like D F) {p : Pl} {x : To} {kl : Lit} {y : DataW Value × List MemPlace} (hk : keyOf Try.prog 83 (.agg p.val) = some kl) (hR : toR (.agg x.cells) = some y) (hat : ∀ zd, D.atKey kl zd = y.1) :
    p.Ok ∧ kl = p.kl ∧ F p = some x := by
  obtain ⟨q, hq, hv, rfl⟩ := key_inv hk
  simp only [Value.agg.injEq] at hv
  obtain rfl := Pl.val_inj hv
  refine ⟨hq, rfl, ?_⟩
  obtain ⟨x', hx'⟩ := hL.of_has hq (Maps.has_true_of_atKey hat)
  have h3 := hL.yes _ x' hx' .nil
  rw [hat] at h3
  rw [toR_cells] at hR
  cases hR
  simp only [DataW.held.injEq, Value.agg.injEq] at h3
  rw [hx', To.cells_inj h3]

theorem same_kl {p q : Pl} (hp : p.Ok) (hq : q.Ok) : p.kl.sameKey q.kl = decide (p = q) := by
  by_cases e : p = q
  · subst e; rw [WideAt.sameKey_self (isKey_kl p hp)]; simp
  · rw [Maps.sameKey_ne (fun h => e (kl_inj hp hq h))]; simp [e]

theorem Sofar.start {F : Tbl} {D : DataW Value} (hL : Like D F) (T : To → Bool) (fam : Int) : Sofar F T fam (Maps.has D) [] := by
  refine ⟨List.nodup_nil, fun p => ⟨fun h => (by cases h), fun ⟨_, ⟨x, hx, _⟩, h2⟩ => ?_⟩⟩
  rw [hL.has hx] at h2
  cases h2
theorem Sofar.yes {F : Tbl} {D : DataW Value} (hL : Like D F) {T : To → Bool} {fam : Int} {left : Lit → Bool} {L : List Pl} (h : Sofar F T fam left L) {p : Pl} {x : To} (hp : p.Ok) (hx : F p = some x) (hf : p.fam = fam) (ht : T x = true) (hl : left p.kl = true) :
    Sofar F T fam (fun z => left z && !z.sameKey p.kl) (L ++ [p]) := by
  have hn : p ∉ L := fun hm => by have := ((h.mem p).1 hm).2.2; rw [hl] at this; cases this
  refine ⟨List.nodup_append.2 ⟨h.nodup, by simp, fun a ha b hb e => hn (by simp at hb; rw [← hb, ← e]; exact ha)⟩, fun q => ?_⟩
  rw [List.mem_append, h.mem q]
  constructor
  · rintro (⟨a, b, c⟩ | hq)
    · exact ⟨a, b, by simp [c]⟩
    · obtain rfl : q = p := by simpa using hq
      exact ⟨hf, ⟨x, hx, ht⟩, by simp [same_kl hp hp]⟩
  · rintro ⟨a, ⟨x', hx', ht'⟩, c⟩
    by_cases e : q = p
    · right; simp [e]
    · left
      refine ⟨a, ⟨x', hx', ht'⟩, ?_⟩
      simpa [same_kl (hL.ok q x' hx') hp, e] using c
theorem Sofar.no {F : Tbl} {D : DataW Value} (hL : Like D F) {T : To → Bool} {fam : Int} {left : Lit → Bool} {L : List Pl} (h : Sofar F T fam left L) {p : Pl} {x : To} (hp : p.Ok) (hx : F p = some x) (hno : ¬ (p.fam = fam ∧ T x = true)) :
    Sofar F T fam (fun z => left z && !z.sameKey p.kl) L := by
  refine ⟨h.nodup, fun q => ?_⟩
  rw [h.mem q]
  constructor
  · rintro ⟨a, b, c⟩
    exact ⟨a, b, by simp [c]⟩
  · rintro ⟨a, ⟨x', hx', ht'⟩, c⟩
    by_cases e : q = p
    · subst e
      rw [hx] at hx'
      cases hx'
      exact absurd ⟨a, ht'⟩ hno
    · exact ⟨a, ⟨x', hx', ht'⟩, by simpa [same_kl (hL.ok q x' hx') hp, e] using c⟩

/-- All places of family fam of which T holds, each once. -/
structure PlacesOf (F : Tbl) (T : To → Bool) (fam : Int) (L : List Pl) : Prop where
  nodup : L.Nodup
  mem : ∀ p, p ∈ L ↔ p.fam = fam ∧ ∃ x, F p = some x ∧ T x = true
theorem Sofar.done {F : Tbl} {T : To → Bool} {fam : Int} {left : Lit → Bool} {L : List Pl} (h : Sofar F T fam left L) (hl : ∀ k, left k = false) : PlacesOf F T fam L :=
  ⟨h.nodup, fun p => by rw [h.mem p]; simp [hl]⟩
theorem PlacesOf.perm {F : Tbl} {T : To → Bool} {fam : Int} {L L' : List Pl} (h : PlacesOf F T fam L) (hp : L.Perm L') : PlacesOf F T fam L' :=
  ⟨hp.nodup_iff.1 h.nodup, fun p => by rw [← hp.mem_iff]; exact h.mem p⟩

/-- A new row of places. -/
def NewPl (w w' : World) (v : Value) (L : List Pl) : Prop := w'.ownsRow w.heap.size 83 5 v L.length (plC L) ∧ Below w.heap.size w w'

theorem infoPl : (Try.prog.info? 83).map (fun i => (i.zero, i.size, i.bytes)) = some (some (.agg #[.int .i64 0, .int .u64 0, .string ⟨#[]⟩, .int .i64 0, .int .u32 0]), 5, 48) := by kernel_rfl
theorem zeroPl (w : World) : (zeroValue 83).run Try.prog w = .ok (.agg #[.int .i64 0, .int .u64 0, .string ⟨#[]⟩, .int .i64 0, .int .u32 0]) w := by kernel_rfl
theorem sizeTo : (Try.prog.info? 85).map (·.size) = some 18 := by kernel_rfl
theorem to_ne (x : To) : (x.cells = #[]) = False := by simp [To.cells]
theorem to_one (x : To) : x.cells.all (·.oneCell') = true := by simp [To.cells, Value.oneCell']
end Go.Proofs.Ytcljkcgccahlcaa
