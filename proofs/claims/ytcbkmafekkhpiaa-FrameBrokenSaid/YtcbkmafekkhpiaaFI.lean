/- What told messages and bytes that came in read as. -/
import Derived.Test.YtcbkmafekkhpiaaFZ
import Derived.ProofKit
import Derived.OpenShut
import Derived.ChangeOld
import Derived.Below
import Derived.Deep.Slices
import Derived.Deep.Fields
import Derived.ChangeSame
import Derived.Lib.SmallJoins
namespace Go.Proofs.Ytcbkmafekkhpiaa
open Go.ChangeShapes Go.WideShapes Go.ChangeAt Go.RowKit Go.Deep Go.Joins
set_option linter.unusedVariables false

section
variable {H : Type} {enc : TypeId × Value → H} {P : Program} {w : World} {base : Nat} {spare : Nat → Bool} {held : Bool}
theorem open_slice_fields {t e : TypeId} {fs : Array Field} {fuel : Nat} {cs : List Value} {x : DataW H × List MemPlace} (ht : P.underlying t = some (.slice e)) (he : P.underlying e = some (.struct fs))
    (hone : oneCellFields P fs = true) (hC : P.cellsOf e = fs.size) (h : DataW.trod enc P w base spare held fuel t cs = some x) :
    (cs = [.slice none 0 0] ∧ x = (.nil, [])) ∨
    ∃ (a : Addr) (len cap m : Nat) (D : Nat → DataW H) (Pl : Nat → List MemPlace), cs = [.slice (some a) len cap] ∧ base ≤ a.block ∧ len ≤ cap ∧ cap ≤ maxLen ∧ m = (if spare a.block then cap else len) ∧
      x = (.slice ((List.range len).map D) ((List.range (m - len)).map fun j => D (len + j)), MemPlace.row a (m * fs.size) ++ (List.range m).flatMap Pl) ∧
      ∀ i, i < m → ∃ (ys : List (DataW H × List MemPlace)) (n : Nat), D i = .agg (ys.map (·.1)) ∧ Pl i = ys.flatMap (·.2) ∧ ys.length = fs.size ∧
        ∀ (j : Nat) (f : Field), fs[j]? = some f → ∃ (v : Value) (y : DataW H × List MemPlace), w.cell? (a.add (i * fs.size + j)) = some v ∧ ys[j]? = some y ∧ DataW.trod enc P w base spare held n f.type [v] = some y := by
  rcases open_slice ht h with h0 | ⟨a, len, cap, m, n, D, Pl, hcs, hb, hl, hm, hmm, hx, hi⟩
  · exact .inl h0
  · refine .inr ⟨a, len, cap, m, D, Pl, hcs, hb, hl, hm, hmm, by rw [hC] at hx; exact hx, fun i him => ?_⟩
    obtain ⟨cs', hc, ht'⟩ := hi i him
    rw [hC] at hc
    obtain ⟨ys, n', hn', hy, hlen, hyl, hf⟩ := DataW.trod_struct he ht'
    obtain ⟨_, hcl, hat⟩ := World.cells?_some hc
    simp only [Prod.mk.injEq] at hy
    refine ⟨ys, n', hy.1, hy.2, hyl, fun j f hj => ?_⟩
    obtain ⟨ho, hk⟩ := hone_of hone j f hj
    have hjl : j < fs.size := (Array.getElem?_eq_some_iff.1 hj).1
    have hcell := hat j hjl
    have hv : cs'[j]? = some (cs'[j]'(by omega)) := List.getElem?_eq_getElem (by omega)
    have h1 := hf j f hj
    rw [ho, hk] at h1
    have hone' : (cs'.drop j).take 1 = [cs'[j]'(by omega)] := by
      rw [List.drop_eq_getElem_cons (by omega)]
      rfl
    rw [hone'] at h1
    have hys : ys[j]? = some (ys[j]'(by omega)) := List.getElem?_eq_getElem (by omega)
    refine ⟨_, _, ?_, hys, h1.trans hys⟩
    rw [← Go.Deep.add_add, hcell, hv]
end

theorem cell_spot {w : World} {a : Addr} {v : Value} (h : w.cell? a = some v) : a.spot = none := by
  unfold World.cell? at h
  split at h
  · split at h
    · cases h
    · rename_i hs
      cases hsp : a.spot with
      | none => rfl
      | some _ => simp [hsp] at hs
  · cases h

theorem spot_of {w : World} {a : Addr} {v : Value} (h : w.cell? (a.add 0) = some v) : a.spot = none := by
  have := cell_spot h
  cases a with | mk b o s => cases s <;> simp [Addr.add] at this ⊢

theorem tolds_of {H : Type} {enc : TypeId × Value → H} {w : World} {fuel : Nat} {ao : Option Addr} {len cap : Nat} {x : DataW H × List MemPlace} {spare : Nat → Bool} {held : Bool}
    (h : DataW.trod enc Try.prog w 0 spare held fuel 42 [.slice ao len cap] = some x) : ∃ bl off, len ≤ 9223372036854775807 ∧ (0 < len → ao = some ⟨bl, off, none⟩ ∧ bl < w.heap.size) ∧ Tolds w bl off len := by
  rcases open_slice_fields Try.underlying42 Try.underlying59 (by kernel_rfl) (by kernel_rfl) h with ⟨hcs, _⟩ | ⟨a, l, c, m, D, Pl, hcs, _, hl, hm, hmm, _, hi⟩
  · simp at hcs
    exact ⟨0, 0, by omega, fun h => by omega, fun i hi => by omega⟩
  · simp at hcs
    obtain ⟨rfl, rfl, rfl⟩ := hcs
    have hmx : len ≤ 9223372036854775807 := by unfold maxLen at hm; omega
    rcases Nat.eq_zero_or_pos len with h0 | hpos
    · exact ⟨0, 0, hmx, fun h => by omega, fun i hi => by omega⟩
    have hlm : len ≤ m := by rw [hmm]; split <;> omega
    have hat : ∀ i, i < len → ∃ x y z : Nat, x < 256 ∧ y < 256 ∧ z < 256 ∧ w.cell? (a.add (i * 3)) = some (.int .u8 (x : Int)) ∧ w.cell? (a.add (i * 3 + 1)) = some (.int .u8 (y : Int)) ∧ w.cell? (a.add (i * 3 + 2)) = some (.int .u8 (z : Int)) := by
      intro i hlt
      obtain ⟨ys, n, _, _, _, hf⟩ := hi i (by omega)
      obtain ⟨v0, y0, c0, _, t0⟩ := hf 0 _ rfl
      obtain ⟨v1, y1, c1, _, t1⟩ := hf 1 _ rfl
      obtain ⟨v2, y2, c2, _, t2⟩ := hf 2 _ rfl
      obtain ⟨x, e0, _, w0⟩ := DataW.trod_int Try.underlying5 t0
      obtain ⟨y, e1, _, w1⟩ := DataW.trod_int Try.underlying5 t1
      obtain ⟨z, e2, _, w2⟩ := DataW.trod_int Try.underlying5 t2
      simp at e0 e1 e2
      subst e0 e1 e2
      have b0 := bounds_u8 w0
      have b1 := bounds_u8 w1
      have b2 := bounds_u8 w2
      obtain ⟨x, rfl⟩ := Int.eq_ofNat_of_zero_le (a := x) (by omega)
      obtain ⟨y, rfl⟩ := Int.eq_ofNat_of_zero_le (a := y) (by omega)
      obtain ⟨z, rfl⟩ := Int.eq_ofNat_of_zero_le (a := z) (by omega)
      exact ⟨x, y, z, by omega, by omega, by omega, c0, c1, c2⟩
    obtain ⟨_, _, _, _, _, _, hx, _⟩ := hat 0 hpos
    have hsp := spot_of (by simpa using hx)
    have hlt := World.block_lt_of_cell? _ _ hx
    obtain ⟨g, off, sp⟩ := a
    simp only at hsp
    subst hsp
    refine ⟨g, off, hmx, fun _ => ⟨rfl, by simpa [Addr.add_lit] using hlt⟩, fun i hi => ?_⟩
    obtain ⟨x, y, z, q1, q2, q3, q4, q5, q6⟩ := hat i hi
    rw [Addr.add_lit] at q4 q5 q6
    exact ⟨⟨x, y, z⟩, q1, q2, q3, q4, q5, q6⟩

theorem bytes_of {H : Type} {enc : TypeId × Value → H} {w : World} {fuel : Nat} {ao : Option Addr} {len cap : Nat} {x : DataW H × List MemPlace} {spare : Nat → Bool} {held : Bool}
    (h : DataW.trod enc Try.prog w 0 spare held fuel 43 [.slice ao len cap] = some x) : ∃ bl off, len ≤ 9223372036854775807 ∧ (0 < len → ao = some ⟨bl, off, none⟩ ∧ bl < w.heap.size) ∧ ∀ i, i < len → ∃ n : Nat, n < 256 ∧ w.cell? ⟨bl, off + i, none⟩ = some (.int .u8 (n : Int)) := by
  rcases open_slice1 Try.underlying43 (by kernel_rfl) h with ⟨hcs, _⟩ | ⟨a, l, c, m, n, V, D, Pl, hcs, hb, hl, hm, hmm, _, hx⟩
  · simp at hcs
    exact ⟨0, 0, by omega, fun h => by omega, fun i hi => by omega⟩
  · simp at hcs
    obtain ⟨rfl, rfl, rfl⟩ := hcs
    have hmx : len ≤ 9223372036854775807 := by unfold maxLen at hm; omega
    rcases Nat.eq_zero_or_pos len with h0 | hpos
    · exact ⟨0, 0, hmx, fun h => by omega, fun i hi => by omega⟩
    have hlm : len ≤ m := by rw [hmm]; split <;> omega
    have hat : ∀ i, i < len → ∃ x : Nat, x < 256 ∧ w.cell? (a.add i) = some (.int .u8 (x : Int)) := by
      intro i hlt
      obtain ⟨c0, t0⟩ := hx i (by omega)
      obtain ⟨x, e0, _, w0⟩ := DataW.trod_int Try.underlying5 t0
      simp at e0
      have b0 := bounds_u8 w0
      obtain ⟨x, rfl⟩ := Int.eq_ofNat_of_zero_le (a := x) (by omega)
      exact ⟨x, by omega, by rw [c0, e0]⟩
    obtain ⟨_, _, hx0⟩ := hat 0 hpos
    have hsp := spot_of hx0
    have hlt := World.block_lt_of_cell? _ _ hx0
    obtain ⟨g, off, sp⟩ := a
    simp only at hsp
    subst hsp
    refine ⟨g, off, hmx, fun _ => ⟨rfl, by simpa [Addr.add_lit] using hlt⟩, fun i hi => ?_⟩
    obtain ⟨x, q1, q2⟩ := hat i hi
    rw [Addr.add_lit] at q2
    exact ⟨x, q1, q2⟩
end Go.Proofs.Ytcbkmafekkhpiaa
