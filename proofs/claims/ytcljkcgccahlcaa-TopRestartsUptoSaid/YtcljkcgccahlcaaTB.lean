/- adjin: the map of a rib, by what it holds at each place. -/
import Derived.Test.YtcljkcgccahlcaaTA
namespace Go.Proofs.Ytcljkcgccahlcaa
open Go.RowKit
open Go.Maps (Keyed)
set_option linter.unusedVariables false

/-- What is told at a place; its attributes are those that the law lays: no list. -/
structure To where
  label : Int
  orig : Int
  hm : Bool
  med : Int
  stale : Bool

/-- The cells of attributes without lists. -/
def aC (orig : Int) (hm : Bool) (med : Int) : Array Value := #[.int .i64 orig, .slice none 0 0, .string ⟨#[]⟩, .bool hm, .int .u32 med, .bool false, .int .u32 0, .bool false, .int .u32 0, .int .u32 0, .slice none 0 0, .slice none 0 0, .slice none 0 0, .bool false, .int .u32 0, .slice none 0 0]
def To.cells (x : To) : Array Value := #[.int .u32 x.label, .int .i64 x.orig, .slice none 0 0, .string ⟨#[]⟩, .bool x.hm, .int .u32 x.med, .bool false, .int .u32 0, .bool false, .int .u32 0, .int .u32 0, .slice none 0 0, .slice none 0 0, .slice none 0 0, .bool false, .int .u32 0, .slice none 0 0, .bool x.stale]
def To.zero : To := ⟨0, 0, false, 0, false⟩
theorem To.cells_inj {x y : To} (h : x.cells = y.cells) : x = y := by
  obtain ⟨a, b, c, d, e⟩ := x
  obtain ⟨a', b', c', d', e'⟩ := y
  simp [To.cells] at h
  obtain ⟨rfl, rfl, rfl, rfl, rfl⟩ := h
  rfl

def IsTo (v : Value) : Prop := ∃ x : To, v = .agg x.cells
noncomputable def toR (v : Value) : Option (DataW Value × List MemPlace) := @ite _ (IsTo v) (Classical.propDecidable _) (some (.held v, [])) none
theorem toR_cells (x : To) : toR (.agg x.cells) = some (.held (.agg x.cells), []) := by
  unfold toR
  rw [if_pos ⟨x, rfl⟩]
theorem toR_inv {v : Value} {y : DataW Value × List MemPlace} (h : toR v = some y) : ∃ x : To, v = .agg x.cells ∧ y = (.held (.agg x.cells), []) := by
  unfold toR at h
  split at h
  · rename_i hx
    obtain ⟨x, rfl⟩ := hx
    exact ⟨x, rfl, (Option.some.inj h).symm⟩
  · cases h

theorem zeroTo (w : World) : (zeroValue 85).run Try.prog w = .ok (.agg To.zero.cells) w := by kernel_rfl

/-- What a map holds at each place. -/
abbrev Tbl := Pl → Option To
noncomputable def Tbl.set (F : Tbl) (p : Pl) (x : Option To) : Tbl := fun q => if q = p then x else F q
theorem Tbl.set_same (F : Tbl) (p : Pl) (x : Option To) : F.set p x p = x := by simp [Tbl.set]
theorem Tbl.set_other (F : Tbl) {p q : Pl} (x : Option To) (h : q ≠ p) : F.set p x q = F q := by simp [Tbl.set, h]

structure Like (D : DataW Value) (F : Tbl) : Prop where
  ok : ∀ p x, F p = some x → p.Ok
  yes : ∀ p x, F p = some x → ∀ z, D.atKey p.kl z = .held (.agg x.cells)
  no : ∀ p, p.Ok → F p = none → Maps.has D p.kl = false

theorem Like.has {D : DataW Value} {F : Tbl} (h : Like D F) {p : Pl} {x : To} (hp : F p = some x) : Maps.has D p.kl = true := Maps.has_true_of_atKey (h.yes p x hp)
theorem Like.of_has {D : DataW Value} {F : Tbl} (h : Like D F) {p : Pl} (hp : p.Ok) (hh : Maps.has D p.kl = true) : ∃ x, F p = some x := by
  cases hf : F p with
  | some x => exact ⟨x, rfl⟩
  | none => rw [h.no p hp hf] at hh; cases hh

theorem like_empty : Like (.map []) (fun _ => none) := ⟨fun p x h => by simp at h, fun p x h => by simp at h, fun p _ _ => rfl⟩
theorem isKey_kl (p : Pl) (hp : p.Ok) : WideAt.IsKeyLit p.kl := lawPl.key (key_pl p hp)
theorem Like.put {D : DataW Value} {F : Tbl} (h : Like D F) (hD : Maps.IsMap D) {p : Pl} (hp : p.Ok) (x : To) : Like (D.put p.kl (.held (.agg x.cells))) (F.set p (some x)) := by
  refine ⟨fun q y hq => ?_, fun q y hq z => ?_, fun q hq hn => ?_⟩
  · by_cases e : q = p
    · rw [e]; exact hp
    · rw [F.set_other _ e] at hq; exact h.ok q y hq
  · by_cases e : q = p
    · subst e
      rw [F.set_same] at hq
      cases hq
      exact Maps.atKey_put_same hD (isKey_kl q hp) _ z
    · rw [F.set_other _ e] at hq
      rw [Maps.atKey_put_other (fun e' => e (kl_inj (h.ok q y hq) hp e'))]
      exact h.yes q y hq z
  · by_cases e : q = p
    · subst e; rw [F.set_same] at hn; cases hn
    · rw [F.set_other _ e] at hn
      rw [Maps.has_put_other (fun e' => e (kl_inj hq hp e'))]
      exact h.no q hq hn
theorem Like.del {D : DataW Value} {F : Tbl} (h : Like D F) {p : Pl} (hp : p.Ok) : Like (D.del p.kl) (F.set p none) := by
  refine ⟨fun q y hq => ?_, fun q y hq z => ?_, fun q hq hn => ?_⟩
  · by_cases e : q = p
    · rw [e]; exact hp
    · rw [F.set_other _ e] at hq; exact h.ok q y hq
  · by_cases e : q = p
    · subst e; rw [F.set_same] at hq; cases hq
    · rw [F.set_other _ e] at hq
      rw [Maps.atKey_del_other (fun e' => e (kl_inj (h.ok q y hq) hp e'))]
      exact h.yes q y hq z
  · by_cases e : q = p
    · subst e; exact Maps.has_del_same
    · rw [F.set_other _ e] at hn
      rw [Maps.has_del_other (fun e' => e (kl_inj hq hp e'))]
      exact h.no q hq hn

/-- Block m is a map that holds F; at most n entries. -/
def MapIs (w : World) (m n : Nat) (F : Tbl) : Prop := ∃ D, w.ownsMap Try.prog 83 toR m n D ∧ Like D F

theorem MapIs.lt {w : World} {m n : Nat} {F : Tbl} (h : MapIs w m n F) : m < w.heap.size := by obtain ⟨D, h1, _⟩ := h; exact h1.lt
theorem MapIs.mono {w : World} {m n n' : Nat} {F : Tbl} (h : MapIs w m n F) (hn : n ≤ n') : MapIs w m n' F := by obtain ⟨D, h1, h2⟩ := h; exact ⟨D, h1.mono hn, h2⟩
theorem MapIs.ok {w : World} {m n : Nat} {F : Tbl} (h : MapIs w m n F) {p : Pl} {x : To} (hp : F p = some x) : p.Ok := by obtain ⟨D, _, h2⟩ := h; exact h2.ok p x hp
theorem MapIs.keep {w w' : World} {m n : Nat} {F : Tbl} (h : MapIs w m n F) (hb : w'.heap[m]? = w.heap[m]?) : MapIs w' m n F := by
  obtain ⟨D, ⟨es, clock, h1, h2⟩, h3⟩ := h
  exact ⟨D, ⟨es, clock, hb.trans h1, h2⟩, h3⟩
theorem mapIs_new (w : World) : MapIs (w.alloc (.map #[] 0)) w.heap.size 0 (fun _ => none) := ⟨_, World.ownsMap_made _ _ _ _, like_empty⟩

theorem grown_but {w w' : World} {b : Nat} (h : w.grownBy w' (some b)) : But b w w' := ⟨h.os, h.tape, h.output, h.size, fun k hk hn => h.block k hk (fun e => hn (Option.some.inj e))⟩

/-- 'm[p] = x'. -/
theorem MapIs.update {w : World} {m n : Nat} {F : Tbl} (h : MapIs w m n F) (hn : n < maxLen) {p : Pl} (hp : p.Ok) (x : To) :
    ∃ w', (Instr.mapUpdate 74 (.map (some m)) (.agg p.val) (.agg x.cells)).run Try.prog w = .ok () w' ∧ MapIs w' m (n + 1) (F.set p (some x)) ∧ But m w w' := by
  obtain ⟨D, h1, h2⟩ := h
  obtain ⟨w', hrun, h3, h4⟩ := h1.update lawPl Try.underlying74 hn (key_pl p hp) (toR_cells x)
  exact ⟨w', hrun, ⟨_, h3, h2.put h1.isMap hp x⟩, grown_but h4⟩

/-- 'delete(m, p)'. -/
theorem MapIs.delete {w : World} {m n : Nat} {F : Tbl} (h : MapIs w m n F) {p : Pl} (hp : p.Ok) (ty : TypeId) :
    ∃ w', (Builtin.delete_ #[74, 83] ty #[.map (some m), .agg p.val]).run Try.prog w = .ok (.tuple #[]) w' ∧ MapIs w' m n (F.set p none) ∧ But m w w' := by
  obtain ⟨D, h1, h2⟩ := h
  obtain ⟨w', hrun, h3, h4⟩ := h1.drop lawPl Try.underlying74 (key_pl p hp) ty
  exact ⟨w', hrun, ⟨_, h3, h2.del hp⟩, grown_but h4.grown⟩

/-- 'm[p]'. -/
theorem MapIs.look {w : World} {m n : Nat} {F : Tbl} (h : MapIs w m n F) {p : Pl} {x : To} (hx : F p = some x) :
    (Instr.lookup 74 (.map (some m)) (.agg p.val) false).run Try.prog w = .ok (.agg x.cells) w := by
  obtain ⟨D, h1, h2⟩ := h
  obtain ⟨v, ps, hrun, hv⟩ := h1.lookup lawPl Try.underlying74 (zeroTo w) (toR_cells To.zero) (key_pl p (h2.ok p x hx))
  rw [h2.yes p x hx] at hv
  obtain ⟨y, rfl, hy⟩ := toR_inv hv
  simp only [Prod.mk.injEq, DataW.held.injEq, Value.agg.injEq] at hy
  rw [hrun, ← hy.1]

/-- 'x, is := m[p]'. -/
theorem MapIs.look_ok {w : World} {m n : Nat} {F : Tbl} (h : MapIs w m n F) {p : Pl} (hp : p.Ok) :
    (Instr.lookup 74 (.map (some m)) (.agg p.val) true).run Try.prog w = .ok (.tuple #[.agg ((F p).getD To.zero).cells, .bool (F p).isSome]) w := by
  obtain ⟨D, ⟨es, clock, hb, hF, hs, rfl⟩, h2⟩ := h
  rcases Maps.fit_look true lawPl Try.underlying74 (zeroTo w) hb hF (key_pl p hp) with ⟨hrun, _, hat⟩ | ⟨e0, y, _, _, hrun, hRv, hat, _⟩
  · cases hf : F p with
    | none => exact hrun
    | some x =>
      have h3 := h2.has hf
      rw [Maps.has_false_of_atKey hat] at h3
      cases h3
  · obtain ⟨x, hx⟩ := h2.of_has hp (Maps.has_true_of_atKey hat)
    have h3 := h2.yes p x hx .nil
    rw [hat] at h3
    obtain ⟨x', hv, rfl⟩ := toR_inv hRv
    simp only [DataW.held.injEq, Value.agg.injEq] at h3
    rw [hx, hrun, hv, h3]
    rfl

/-- A rib: block b; its map: block m. -/
structure IsRib (w : World) (b m n : Nat) (F : Tbl) : Prop where
  blk : w.heap[b]? = some (.cells #[.int .i64 0, .map (some m)] 76 (0, 0))
  map : MapIs w m n F

theorem IsRib.lt {w : World} {b m n : Nat} {F : Tbl} (h : IsRib w b m n F) : b < w.heap.size := lt_of_block h.blk
theorem IsRib.ne {w : World} {b m n : Nat} {F : Tbl} (h : IsRib w b m n F) : b ≠ m := by
  rintro rfl
  obtain ⟨D, ⟨es, clock, h1, _⟩, _⟩ := h.map
  rw [h.blk] at h1
  cases h1
theorem IsRib.most {w : World} {b m n : Nat} {F : Tbl} (h : IsRib w b m n F) : w.cell? ⟨b, 0, none⟩ = some (.int .i64 0) := (cell_of_row _ _ _ _ _ _ h.blk).trans rfl
theorem IsRib.at_ {w : World} {b m n : Nat} {F : Tbl} (h : IsRib w b m n F) : w.cell? ⟨b, 1, none⟩ = some (.map (some m)) := (cell_of_row _ _ _ _ _ _ h.blk).trans rfl
theorem IsRib.keep {w w' : World} {b m n : Nat} {F : Tbl} (h : IsRib w b m n F) (hb : w'.heap[b]? = w.heap[b]?) (hm : w'.heap[m]? = w.heap[m]?) : IsRib w' b m n F := ⟨hb.trans h.blk, h.map.keep hm⟩
theorem IsRib.below {w w' : World} {b m n : Nat} {F : Tbl} (h : IsRib w b m n F) (hb : Below w.heap.size w w') : IsRib w' b m n F := h.keep (hb.block _ h.lt) (hb.block _ h.map.lt)
theorem IsRib.mono {w : World} {b m n n' : Nat} {F : Tbl} (h : IsRib w b m n F) (hn : n ≤ n') : IsRib w b m n' F := ⟨h.blk, h.map.mono hn⟩
theorem IsRib.but {w w' : World} {b m n k : Nat} {F : Tbl} (h : IsRib w b m n F) (hb : But k w w') (h1 : k ≠ b) (h2 : k ≠ m) : IsRib w' b m n F := h.keep (hb.block _ h.lt h1.symm) (hb.block _ h.map.lt h2.symm)

/-! ### none, New, and what is asked of what is told -/
theorem rnone_no (b m : Nat) (w : World) (h1 : w.cell? ⟨b, 1, none⟩ = some (.map (some m))) :
    Calls Try.prog 25 #[.pointer (some ⟨b, 0, none⟩)] w fun e w' => e = .returned (.bool false) ∧ w = w' := by
  have hnil := fun (w : World) => run_eql_map_nil (P := Try.prog) w 74 _ _ (some m) Try.underlying74
  go_enter Try.func25, Try.ntmps25
  go_wp2
  go_ret
  exact ⟨rfl, rfl⟩

theorem newRib_any (w : World) : Calls Try.prog 5 #[.int .i64 0] w fun e w' => ∃ b m, e = .returned (.pointer (some ⟨b, 0, none⟩)) ∧ IsRib w' b m 0 (fun _ => none) ∧ w.heap.size ≤ b ∧ w.heap.size ≤ m ∧ Below w.heap.size w w' := by
  have hmm := @run_makeMap Try.prog
  go_enter Try.func5, Try.ntmps5
  go_wp2
  go_ret
  refine ⟨_, _, rfl, ⟨heap_alloc2_new _ _ _, (mapIs_new w).keep (by rw [Below.heap_alloc _ _ _ (by simp)])⟩, by omega, by omega, ((Below.refl _ _).alloc (Nat.le_refl _) _).alloc (by simp) _⟩
end Go.Proofs.Ytcljkcgccahlcaa
