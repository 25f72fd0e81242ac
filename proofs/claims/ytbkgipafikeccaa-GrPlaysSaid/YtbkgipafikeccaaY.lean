/- What a session that came in reads as. -/
import Derived.Test.YtbkgipafikeccaaX
import Derived.ProofKit
import Derived.OpenShut
import Derived.Deep.Slices
import Derived.Deep.Fields
import Derived.ChangeSame
import Derived.Lib.SmallJoins
namespace Go.Proofs.Ytbkgipafikeccaa
open Go.ChangeShapes Go.WideShapes Go.ChangeAt Go.RowKit Go.Deep Go.Joins
set_option linter.unusedVariables false

section
variable {H : Type} {enc : TypeId × Value → H} {P : Program} {w : World} {base : Nat} {spare : Nat → Bool} {held : Bool}
/-- A struct of one-cell fields: each cell with its own reading. -/
theorem trod_fields {t : TypeId} {fs : Array Field} {fuel : Nat} {cs : List Value} {x : DataW H × List MemPlace} (ht : P.underlying t = some (.struct fs)) (hone : oneCellFields P fs = true) (hlen : cs.length = fs.size)
    (h : DataW.trod enc P w base spare held fuel t cs = some x) : ∃ n, ∀ (j : Nat) (f : Field), fs[j]? = some f → ∃ v y, cs[j]? = some v ∧ DataW.trod enc P w base spare held n f.type [v] = some y := by
  obtain ⟨ys, n, hn', hy, hlen', hyl, hf⟩ := DataW.trod_struct ht h
  refine ⟨n, fun j f hj => ?_⟩
  obtain ⟨ho, hk⟩ := hone_of hone j f hj
  have hjl : j < fs.size := (Array.getElem?_eq_some_iff.1 hj).1
  have h1 := hf j f hj
  rw [ho, hk] at h1
  have hone' : (cs.drop j).take 1 = [cs[j]'(by omega)] := by
    rw [List.drop_eq_getElem_cons (by omega)]
    rfl
  rw [hone'] at h1
  have hys : ys[j]? = some (ys[j]'(by omega)) := List.getElem?_eq_getElem (by omega)
  exact ⟨_, _, List.getElem?_eq_getElem (by omega), h1.trans hys⟩
end

theorem cell_spot {w : World} {a : Addr} {v : Value} (h : w.cell? a = some v) : a.spot = none := by
  unfold World.cell? at h
  split at h
  · split at h
    · cases h
    · rename_i hs
      cases hsp : a.spot with
      | none => rfl
      | some _ => simp [hsp] at hs
  · cases h
theorem spot_add {a : Addr} (h : (a.add 0).spot = none) : a.spot = none := by
  cases a with | mk b o s => cases s <;> simp [Addr.add] at h ⊢

section
variable {H : Type} {enc : TypeId × Value → H} {w : World} {base : Nat} {held : Bool}
/-- A slice of ints that came in. -/
theorem rd_of_trod {fuel : Nat} {v : Value} {x : DataW H × List MemPlace} (h : DataW.trod enc Try.prog w base (fun _ => true) held fuel 27 [v] = some x) : ∃ L, Rd w v L := by
  rcases open_ints Try.underlying27 Try.underlying3 (by kernel_rfl) h with ⟨hcs, _⟩ | ⟨a, len, cap, zs, hcs, _, hl, hm, hz, _, hcell, _⟩
  · simp at hcs; subst hcs
    exact ⟨[], rd_nil w⟩
  · simp at hcs; subst hcs
    simp at hz
    have hlen : (zs.take len).length = len := by simp; omega
    refine ⟨zs.take len, ⟨some a, cap, by rw [hlen], by omega, fun hne => ?_⟩, by omega⟩
    have hpos : 0 < len := by rcases Nat.eq_zero_or_pos len with h0 | h0; · simp [h0] at hne
                              · exact h0
    have hsp := spot_add (cell_spot (hcell 0 (by omega)))
    obtain ⟨g, off, sp⟩ := a
    simp at hsp; subst hsp
    refine ⟨g, off, rfl, fun i hi => ?_⟩
    rw [hlen] at hi
    have := hcell i (by omega)
    rw [Addr.add_lit] at this
    rw [this, List.getElem_take]
    simp [List.getD_eq_getElem?_getD, List.getElem?_eq_getElem (show i < zs.length by omega)]

/-- A slice of api.Restart that came in. -/
theorem rdK_of_trod {fuel : Nat} {v : Value} {x : DataW H × List MemPlace} (h : DataW.trod enc Try.prog w base (fun _ => true) held fuel 28 [v] = some x) : ∃ L, RdK w v L := by
  rcases open_slice Try.underlying28 h with ⟨hcs, _⟩ | ⟨a, len, cap, m, n, D, Pl, hcs, hb, hl, hm, hmm, hx, hi⟩
  · simp at hcs; subst hcs
    exact ⟨[], ⟨none, 0, rfl, Nat.le_refl _, fun h => absurd rfl h⟩, Nat.zero_le _⟩
  · simp at hcs; subst hcs
    simp at hmm
    have hone : oneCellFields Try.prog _ = true := (by kernel_rfl : oneCellFields Try.prog (#[{ name := "Fam", type := 3, offset := 0, embedded := false, tag := "", pkgPath := "", byteOffset := 0 }, { name := "Kept", type := 4, offset := 1, embedded := false, tag := "", pkgPath := "", byteOffset := 8 }] : Array Field) = true)
    have hat : ∀ i, i < len → ∃ z b, w.cell? (a.add (i * 2)) = some (.int .i64 z) ∧ w.cell? (a.add (i * 2 + 1)) = some (.bool b) := by
      intro i hlt
      obtain ⟨cs', hc, ht'⟩ := hi i (by omega)
      obtain ⟨_, hcl, hcat⟩ := World.cells?_some hc
      have h2 : Try.prog.cellsOf 70 = 2 := by kernel_rfl
      rw [h2] at hcl hcat
      obtain ⟨n', hf⟩ := trod_fields Try.underlying70 hone hcl ht'
      obtain ⟨v0, y0, e0, t0⟩ := hf 0 _ rfl
      obtain ⟨v1, y1, e1, t1⟩ := hf 1 _ rfl
      obtain ⟨z, c0, _, _⟩ := DataW.trod_int Try.underlying3 t0
      obtain ⟨b, c1, _⟩ := DataW.trod_bool Try.underlying4 t1
      simp at c0 c1
      subst c0 c1
      have q0 := hcat 0 (by omega)
      have q1 := hcat 1 (by omega)
      rw [e0, Go.Deep.add_add] at q0
      rw [e1, Go.Deep.add_add] at q1
      exact ⟨z, b, q0, q1⟩
    obtain ⟨Z, hZ⟩ : ∃ Z : Nat → Int × Bool, ∀ i, i < len → w.cell? (a.add (i * 2)) = some (.int .i64 (Z i).1) ∧ w.cell? (a.add (i * 2 + 1)) = some (.bool (Z i).2) := by
      refine ⟨fun i => if hi : i < len then ((Classical.choose (hat i hi)), Classical.choose (Classical.choose_spec (hat i hi))) else (0, false), fun i hi => ?_⟩
      simp only [hi, dif_pos]
      exact Classical.choose_spec (Classical.choose_spec (hat i hi))
    have hlen : ((List.range len).map Z).length = len := by simp
    refine ⟨(List.range len).map Z, ⟨some a, cap, by rw [hlen], by omega, fun hne => ?_⟩, by omega⟩
    have hpos : 0 < len := by
      rcases Nat.eq_zero_or_pos len with h0 | h0
      · simp [h0] at hne
      · exact h0
    have hsp := spot_add (by have := cell_spot (hZ 0 hpos).1; simpa using this)
    obtain ⟨g, off, sp⟩ := a
    simp at hsp; subst hsp
    refine ⟨g, off, rfl, fun i hi => ?_⟩
    rw [hlen] at hi
    have := hZ i hi
    rw [Addr.add_lit, Addr.add_lit] at this
    simpa [Nat.add_assoc] using this

theorem ses_of_trod {v : Value} {d : DataW H} {p : List MemPlace} {r : Reach} {b0 : Nat} (hv : Value.okWide Try.prog w r b0 30 v) (h : DataW.Trod enc Try.prog w base (fun _ => true) held 30 v d p) :
    ∃ c F K gr time, v = .agg c ∧ Ses w c F K gr time := by
  obtain ⟨cs, rfl, hsz⟩ := okWide_struct Try.underlying30 hv
  have hC : Try.prog.cellsOf 30 = 10 := by kernel_rfl
  rw [hC] at hsz
  obtain ⟨fuel, hf⟩ := h
  have hone : oneCellFields Try.prog _ = true := (by kernel_rfl : oneCellFields Try.prog (match Try.prog.underlying 30 with | some (.struct fs) => fs | _ => #[]) = true)
  rw [Try.underlying30] at hone
  obtain ⟨n, hg⟩ := trod_fields Try.underlying30 hone (by rw [Array.length_toList]; exact hsz) (by simpa [Value.cells] using hf)
  obtain ⟨v0, y0, e0, t0⟩ := hg 0 _ rfl
  obtain ⟨v1, y1, e1, t1⟩ := hg 1 _ rfl
  obtain ⟨v2, y2, e2, t2⟩ := hg 2 _ rfl
  obtain ⟨v3, y3, e3, t3⟩ := hg 3 _ rfl
  obtain ⟨v4, y4, e4, t4⟩ := hg 4 _ rfl
  obtain ⟨v5, y5, e5, t5⟩ := hg 5 _ rfl
  obtain ⟨v6, y6, e6, t6⟩ := hg 6 _ rfl
  obtain ⟨v7, y7, e7, t7⟩ := hg 7 _ rfl
  obtain ⟨v8, y8, e8, t8⟩ := hg 8 _ rfl
  obtain ⟨v9, y9, e9, t9⟩ := hg 9 _ rfl
  obtain ⟨z0, c0, _, _⟩ := DataW.trod_int Try.underlying3 t0
  obtain ⟨z2, c2, _⟩ := DataW.trod_bool Try.underlying4 t2
  obtain ⟨z3, c3, _⟩ := DataW.trod_bool Try.underlying4 t3
  obtain ⟨a4, l4, p4, c4⟩ := slice_form Try.underlying27 t4
  obtain ⟨a5, l5, p5, c5⟩ := slice_form Try.underlying27 t5
  obtain ⟨z6, c6, _⟩ := DataW.trod_bool Try.underlying4 t6
  obtain ⟨z7, c7, _⟩ := DataW.trod_bool Try.underlying4 t7
  obtain ⟨z8, c8, _, w8⟩ := DataW.trod_int Try.underlying3 t8
  obtain ⟨F, hF⟩ := rd_of_trod t1
  obtain ⟨K, hK⟩ := rdK_of_trod t9
  obtain ⟨a1, l1, p1, c1⟩ := slice_form Try.underlying27 t1
  obtain ⟨a9, l9, p9, c9⟩ := slice_form Try.underlying28 t9
  simp at c0 c1 c2 c3 c4 c5 c6 c7 c8 c9
  subst c0 c1 c2 c3 c4 c5 c6 c7 c8 c9
  have b8 := bounds_i64 w8
  simp only [Array.getElem?_toList] at e0 e1 e2 e3 e4 e5 e6 e7 e8 e9
  refine ⟨cs, F, K, z6, z8, rfl, hsz, ?_, ⟨_, e1, hF⟩, e6, e8, ⟨_, e9, hK⟩, b8.1, b8.2⟩
  rw [Array.all_eq_true]
  intro i hi
  have hgi : cs[i]? = some cs[i] := Array.getElem?_eq_getElem hi
  rw [hsz] at hi
  match i, hi with
  | 0, _ => rw [e0] at hgi; injection hgi with e; rw [← e]; rfl
  | 1, _ => rw [e1] at hgi; injection hgi with e; rw [← e]; rfl
  | 2, _ => rw [e2] at hgi; injection hgi with e; rw [← e]; rfl
  | 3, _ => rw [e3] at hgi; injection hgi with e; rw [← e]; rfl
  | 4, _ => rw [e4] at hgi; injection hgi with e; rw [← e]; rfl
  | 5, _ => rw [e5] at hgi; injection hgi with e; rw [← e]; rfl
  | 6, _ => rw [e6] at hgi; injection hgi with e; rw [← e]; rfl
  | 7, _ => rw [e7] at hgi; injection hgi with e; rw [← e]; rfl
  | 8, _ => rw [e8] at hgi; injection hgi with e; rw [← e]; rfl
  | 9, _ => rw [e9] at hgi; injection hgi with e; rw [← e]; rfl
end
end Go.Proofs.Ytbkgipafikeccaa
