/- What two sessions, and told prefixes, that came in read as. -/
import Derived.Test.YtcljkcgccahlcaaTY
import Derived.ProofKit
import Derived.OpenShut
import Derived.Deep.Slices
import Derived.Deep.Fields
import Derived.ChangeSame
import Derived.Lib.SmallJoins
namespace Go.Proofs.Ytcljkcgccahlcaa
open Go.ChangeShapes Go.WideShapes Go.ChangeAt Go.RowKit Go.Deep Go.Joins
set_option linter.unusedVariables false

set_option maxRecDepth 100000
theorem rd_nil (w : World) : Rd w (.slice none 0 0) [] := ⟨⟨none, 0, rfl, Nat.le_refl _, fun h => absurd rfl h⟩, Nat.zero_le _⟩

section
variable {H : Type} {enc : TypeId × Value → H} {P : Program} {w : World} {base : Nat} {spare : Nat → Bool} {held : Bool}
/-- A struct of one-cell fields: each cell with its own reading. -/
theorem trod_fields {t : TypeId} {fs : Array Field} {fuel : Nat} {cs : List Value} {x : DataW H × List MemPlace} (ht : P.underlying t = some (.struct fs)) (hone : oneCellFields P fs = true) (hlen : cs.length = fs.size)
    (h : DataW.trod enc P w base spare held fuel t cs = some x) : ∃ n, ∀ (j : Nat) (f : Field), fs[j]? = some f → ∃ v y, cs[j]? = some v ∧ DataW.trod enc P w base spare held n f.type [v] = some y := by
  obtain ⟨ys, n, hn', hy, hlen', hyl, hf⟩ := DataW.trod_struct ht h
  refine ⟨n, fun j f hj => ?_⟩
  obtain ⟨ho, hk⟩ := hone_of hone j f hj
  have hjl : j < fs.size := (Array.getElem?_eq_some_iff.1 hj).1
  have h1 := hf j f hj
  rw [ho, hk] at h1
  have hone' : (cs.drop j).take 1 = [cs[j]'(by omega)] := by
    rw [List.drop_eq_getElem_cons (by omega)]
    rfl
  rw [hone'] at h1
  have hys : ys[j]? = some (ys[j]'(by omega)) := List.getElem?_eq_getElem (by omega)
  exact ⟨_, _, List.getElem?_eq_getElem (by omega), h1.trans hys⟩
end

theorem cell_spot {w : World} {a : Addr} {v : Value} (h : w.cell? a = some v) : a.spot = none := by
  unfold World.cell? at h
  split at h
  · split at h
    · cases h
    · rename_i hs
      cases hsp : a.spot with
      | none => rfl
      | some _ => simp [hsp] at hs
  · cases h
theorem spot_add {a : Addr} (h : (a.add 0).spot = none) : a.spot = none := by
  cases a with | mk b o s => cases s <;> simp [Addr.add] at h ⊢

section
variable {H : Type} {enc : TypeId × Value → H} {w : World} {base : Nat} {held : Bool}
/-- A slice of ints that came in. -/
theorem rd_of_trod {fuel : Nat} {v : Value} {x : DataW H × List MemPlace} (h : DataW.trod enc Try.prog w base (fun _ => true) held fuel 23 [v] = some x) : ∃ L, Rd w v L := by
  rcases open_ints Try.underlying23 Try.underlying3 (by kernel_rfl) h with ⟨hcs, _⟩ | ⟨a, len, cap, zs, hcs, _, hl, hm, hz, _, hcell, _⟩
  · simp at hcs; subst hcs
    exact ⟨[], rd_nil w⟩
  · simp at hcs; subst hcs
    simp at hz
    have hlen : (zs.take len).length = len := by simp; omega
    refine ⟨zs.take len, ⟨some a, cap, by rw [hlen], by omega, fun hne => ?_⟩, by omega⟩
    have hpos : 0 < len := by rcases Nat.eq_zero_or_pos len with h0 | h0; · simp [h0] at hne
                              · exact h0
    have hsp := spot_add (cell_spot (hcell 0 (by omega)))
    obtain ⟨g, off, sp⟩ := a
    simp at hsp; subst hsp
    refine ⟨g, off, rfl, fun i hi => ?_⟩
    rw [hlen] at hi
    have := hcell i (by omega)
    rw [Addr.add_lit] at this
    rw [this, List.getElem_take]
    simp [List.getD_eq_getElem?_getD, List.getElem?_eq_getElem (show i < zs.length by omega)]

/-- A slice of api.Restart that came in. -/
theorem rdK_of_trod {fuel : Nat} {v : Value} {x : DataW H × List MemPlace} (h : DataW.trod enc Try.prog w base (fun _ => true) held fuel 24 [v] = some x) : ∃ L, RdK w v L := by
  rcases open_slice Try.underlying24 h with ⟨hcs, _⟩ | ⟨a, len, cap, m, n, D, Pl, hcs, hb, hl, hm, hmm, hx, hi⟩
  · simp at hcs; subst hcs
    exact ⟨[], ⟨none, 0, rfl, Nat.le_refl _, fun h => absurd rfl h⟩, Nat.zero_le _⟩
  · simp at hcs; subst hcs
    simp at hmm
    have hone : oneCellFields Try.prog _ = true := (by kernel_rfl : oneCellFields Try.prog (#[{ name := "Fam", type := 3, offset := 0, embedded := false, tag := "", pkgPath := "", byteOffset := 0 }, { name := "Kept", type := 4, offset := 1, embedded := false, tag := "", pkgPath := "", byteOffset := 8 }] : Array Field) = true)
    have hat : ∀ i, i < len → ∃ z b, w.cell? (a.add (i * 2)) = some (.int .i64 z) ∧ w.cell? (a.add (i * 2 + 1)) = some (.bool b) := by
      intro i hlt
      obtain ⟨cs', hc, ht'⟩ := hi i (by omega)
      obtain ⟨_, hcl, hcat⟩ := World.cells?_some hc
      have h2 : Try.prog.cellsOf 73 = 2 := by kernel_rfl
      rw [h2] at hcl hcat
      obtain ⟨n', hf⟩ := trod_fields Try.underlying73 hone hcl ht'
      obtain ⟨v0, y0, e0, t0⟩ := hf 0 _ rfl
      obtain ⟨v1, y1, e1, t1⟩ := hf 1 _ rfl
      obtain ⟨z, c0, _, _⟩ := DataW.trod_int Try.underlying3 t0
      obtain ⟨b, c1, _⟩ := DataW.trod_bool Try.underlying4 t1
      simp at c0 c1
      subst c0 c1
      have q0 := hcat 0 (by omega)
      have q1 := hcat 1 (by omega)
      rw [e0, Go.Deep.add_add] at q0
      rw [e1, Go.Deep.add_add] at q1
      exact ⟨z, b, q0, q1⟩
    obtain ⟨Z, hZ⟩ : ∃ Z : Nat → Int × Bool, ∀ i, i < len → w.cell? (a.add (i * 2)) = some (.int .i64 (Z i).1) ∧ w.cell? (a.add (i * 2 + 1)) = some (.bool (Z i).2) := by
      refine ⟨fun i => if hi : i < len then ((Classical.choose (hat i hi)), Classical.choose (Classical.choose_spec (hat i hi))) else (0, false), fun i hi => ?_⟩
      simp only [hi, dif_pos]
      exact Classical.choose_spec (Classical.choose_spec (hat i hi))
    have hlen : ((List.range len).map Z).length = len := by simp
    refine ⟨(List.range len).map Z, ⟨some a, cap, by rw [hlen], by omega, fun hne => ?_⟩, by omega⟩
    have hpos : 0 < len := by
      rcases Nat.eq_zero_or_pos len with h0 | h0
      · simp [h0] at hne
      · exact h0
    have hsp := spot_add (by have := cell_spot (hZ 0 hpos).1; simpa using this)
    obtain ⟨g, off, sp⟩ := a
    simp at hsp; subst hsp
    refine ⟨g, off, rfl, fun i hi => ?_⟩
    rw [hlen] at hi
    have := hZ i hi
    rw [Addr.add_lit, Addr.add_lit] at this
    simpa [Nat.add_assoc] using this

theorem all_cells {cs : Array Value} {n : Nat} (hs : cs.size = n) (h : ∀ i, i < n → ∃ v, cs[i]? = some v ∧ v.oneCell' = true) : cs.all (·.oneCell') = true := by
  rw [Array.all_eq_true]
  intro i hi
  obtain ⟨v, hv, ho⟩ := h i (by omega)
  rw [Array.getElem?_eq_getElem hi] at hv
  injection hv with e
  rw [e]; exact ho

theorem ses_of_cells {cs : Array Value} {fuel : Nat} {x : DataW H × List MemPlace} (hsz : cs.size = 10) (hf : DataW.trod enc Try.prog w base (fun _ => true) held fuel 26 cs.toList = some x) :
    ∃ F K gr time, Ses w cs F K gr time := by
  have hone : oneCellFields Try.prog _ = true := (by kernel_rfl : oneCellFields Try.prog (match Try.prog.underlying 26 with | some (.struct fs) => fs | _ => #[]) = true)
  rw [Try.underlying26] at hone
  obtain ⟨n, hg⟩ := trod_fields Try.underlying26 hone (by rw [Array.length_toList]; exact hsz) hf
  obtain ⟨v0, y0, e0, t0⟩ := hg 0 _ rfl
  obtain ⟨v1, y1, e1, t1⟩ := hg 1 _ rfl
  obtain ⟨v2, y2, e2, t2⟩ := hg 2 _ rfl
  obtain ⟨v3, y3, e3, t3⟩ := hg 3 _ rfl
  obtain ⟨v4, y4, e4, t4⟩ := hg 4 _ rfl
  obtain ⟨v5, y5, e5, t5⟩ := hg 5 _ rfl
  obtain ⟨v6, y6, e6, t6⟩ := hg 6 _ rfl
  obtain ⟨v7, y7, e7, t7⟩ := hg 7 _ rfl
  obtain ⟨v8, y8, e8, t8⟩ := hg 8 _ rfl
  obtain ⟨v9, y9, e9, t9⟩ := hg 9 _ rfl
  obtain ⟨z0, c0, _, _⟩ := DataW.trod_int Try.underlying3 t0
  obtain ⟨z2, c2, _⟩ := DataW.trod_bool Try.underlying4 t2
  obtain ⟨z3, c3, _⟩ := DataW.trod_bool Try.underlying4 t3
  obtain ⟨a4, l4, p4, c4⟩ := slice_form Try.underlying23 t4
  obtain ⟨a5, l5, p5, c5⟩ := slice_form Try.underlying23 t5
  obtain ⟨z6, c6, _⟩ := DataW.trod_bool Try.underlying4 t6
  obtain ⟨z7, c7, _⟩ := DataW.trod_bool Try.underlying4 t7
  obtain ⟨z8, c8, _, w8⟩ := DataW.trod_int Try.underlying3 t8
  obtain ⟨F, hF⟩ := rd_of_trod t1
  obtain ⟨K, hK⟩ := rdK_of_trod t9
  obtain ⟨a1, l1, p1, c1⟩ := slice_form Try.underlying23 t1
  obtain ⟨a9, l9, p9, c9⟩ := slice_form Try.underlying24 t9
  simp at c0 c1 c2 c3 c4 c5 c6 c7 c8 c9
  subst c0 c1 c2 c3 c4 c5 c6 c7 c8 c9
  have b8 := bounds_i64 w8
  simp only [Array.getElem?_toList] at e0 e1 e2 e3 e4 e5 e6 e7 e8 e9
  refine ⟨F, K, z6, z8, hsz, all_cells hsz ?_, ⟨_, e1, hF⟩, e6, e8, ⟨_, e9, hK⟩, b8.1, b8.2⟩
  intro i hi
  match i, hi with
  | 0, _ => exact ⟨_, e0, rfl⟩
  | 1, _ => exact ⟨_, e1, rfl⟩
  | 2, _ => exact ⟨_, e2, rfl⟩
  | 3, _ => exact ⟨_, e3, rfl⟩
  | 4, _ => exact ⟨_, e4, rfl⟩
  | 5, _ => exact ⟨_, e5, rfl⟩
  | 6, _ => exact ⟨_, e6, rfl⟩
  | 7, _ => exact ⟨_, e7, rfl⟩
  | 8, _ => exact ⟨_, e8, rfl⟩
  | 9, _ => exact ⟨_, e9, rfl⟩

theorem one_of_take {l : List Value} {k : Nat} {v : Value} (h : (l.drop k).take 1 = [v]) : l[k]? = some v := by
  have := congrArg (fun m => m[0]?) h
  simpa using this


/-- Two sessions. -/
theorem pair_of_trod {v : Value} {d : DataW H} {p : List MemPlace} {r : Reach} {b0 : Nat} (hv : Value.okWide Try.prog w r b0 27 v) (h : DataW.Trod enc Try.prog w base (fun _ => true) held 27 v d p) :
    ∃ C F0 K0 gr0 t0 F1 K1 gr1 t1, v = .agg C ∧ C.size = 20 ∧ Ses w (C.extract 0 10) F0 K0 gr0 t0 ∧ Ses w (C.extract 10 20) F1 K1 gr1 t1 := by
  have c10 : Try.prog.cellsOf 26 = 10 := by kernel_rfl
  have c20 : Try.prog.cellsOf 27 = 20 := by kernel_rfl
  simp only [Value.okWide, Try.underlying27] at hv
  obtain ⟨C, rfl, hsz, _⟩ := hv
  rw [c20] at hsz
  obtain ⟨fuel, hf⟩ := h
  obtain ⟨xs, n, _, _, _, hlen, hg⟩ := DataW.trod_array Try.underlying27 hf
  have h0 := hg 0 (by omega)
  have h1 := hg 1 (by omega)
  rw [c10] at h0 h1
  rw [List.getElem?_eq_getElem (by omega)] at h0 h1
  have e0 : (C.extract 0 10).toList = ((Value.agg C).cells.toList.drop (0 * 10)).take 10 := by simp [Value.cells]
  have e1 : (C.extract 10 20).toList = ((Value.agg C).cells.toList.drop (1 * 10)).take 10 := by simp [Value.cells]
  obtain ⟨F0, K0, gr0, t0, s0⟩ := ses_of_cells (cs := C.extract 0 10) (by simp; omega) (by rw [e0]; exact h0)
  obtain ⟨F1, K1, gr1, t1, s1⟩ := ses_of_cells (cs := C.extract 10 20) (by simp; omega) (by rw [e1]; exact h1)
  exact ⟨C, F0, K0, gr0, t0, F1, K1, gr1, t1, rfl, hsz, s0, s1⟩

theorem nl_of_cells {d : Array Value} {fuel : Nat} {x : DataW H × List MemPlace} (hsz : d.size = 6) (hf : DataW.trod enc Try.prog w base (fun _ => true) held fuel 41 d.toList = some x) :
    ∃ y : Nl, (∀ j, j < 6 → d[j]? = (nlC y.p y.label)[j]?) ∧ y.p.Ok := by
  obtain ⟨xs, n, _, _, _, hlen, hg⟩ := DataW.trod_struct Try.underlying41 hf
  have f0 : DataW.trod enc Try.prog w base (fun _ => true) held n 38 ((d.toList.drop 0).take (Try.prog.cellsOf 38)) = xs[0]? := hg 0 _ rfl
  have f1 : DataW.trod enc Try.prog w base (fun _ => true) held n 39 ((d.toList.drop 4).take (Try.prog.cellsOf 39)) = xs[1]? := hg 1 _ rfl
  have f2 : DataW.trod enc Try.prog w base (fun _ => true) held n 39 ((d.toList.drop 5).take (Try.prog.cellsOf 39)) = xs[2]? := hg 2 _ rfl
  have hl3 : xs.length = 3 := hlen
  rw [cells38] at f0
  rw [cells39] at f1 f2
  rw [List.getElem?_eq_getElem (by omega)] at f0 f1 f2
  have hone : oneCellFields Try.prog _ = true := (by kernel_rfl : oneCellFields Try.prog (match Try.prog.underlying 38 with | some (.struct fs) => fs | _ => #[]) = true)
  rw [Try.underlying38] at hone
  have hd4 : ((d.toList.drop 0).take 4).length = 4 := by simp; omega
  obtain ⟨m, hp⟩ := trod_fields Try.underlying38 hone hd4 f0
  obtain ⟨v0, y0, e0, t0⟩ := hp 0 _ rfl
  obtain ⟨v1, y1, e1, t1⟩ := hp 1 _ rfl
  obtain ⟨v2, y2, e2, t2⟩ := hp 2 _ rfl
  obtain ⟨v3, y3, e3, t3⟩ := hp 3 _ rfl
  obtain ⟨z0, g0, _, w0⟩ := DataW.trod_int Try.underlying3 t0
  obtain ⟨z1, g1, _, w1⟩ := DataW.trod_int Try.underlying36 t1
  obtain ⟨s2, g2, _, w2⟩ := DataW.trod_string Try.underlying9 t2
  obtain ⟨z3, g3, _, w3⟩ := DataW.trod_int Try.underlying3 t3
  obtain ⟨z4, g4, _, w4⟩ := DataW.trod_int Try.underlying39 f1
  obtain ⟨z5, g5, _, w5⟩ := DataW.trod_int Try.underlying39 f2
  simp at g0 g1 g2 g3
  subst g0 g1 g2 g3
  have q4 : d[4]? = some (.int .u32 z4) := by simpa using one_of_take g4
  have q5 : d[5]? = some (.int .u32 z5) := by simpa using one_of_take g5
  refine ⟨⟨⟨z0, z1, s2, z3, z4⟩, z5⟩, fun j hj => ?_, ⟨w0, w1, w2, w3, w4⟩⟩
  match j, hj with
  | 0, _ => exact (by simpa [List.getElem?_take] using e0 : d[0]? = some (.int .i64 z0))
  | 1, _ => exact (by simpa [List.getElem?_take] using e1 : d[1]? = some (.int .u64 z1))
  | 2, _ => exact (by simpa [List.getElem?_take] using e2 : d[2]? = some (.string s2))
  | 3, _ => exact (by simpa [List.getElem?_take] using e3 : d[3]? = some (.int .i64 z3))
  | 4, _ => exact q4
  | 5, _ => exact q5

/-- A slice of told prefixes that came in. -/
theorem rdN_of_trod {fuel : Nat} {v : Value} {x : DataW H × List MemPlace} (h : DataW.trod enc Try.prog w base (fun _ => true) held fuel 22 [v] = some x) : ∃ L, RdN w v L ∧ L.length ≤ maxLen := by
  rcases open_slice Try.underlying22 h with ⟨hcs, _⟩ | ⟨a, len, cap, m, n, D, Pl, hcs, hb, hl, hm, hmm, hx, hi⟩
  · simp at hcs; subst hcs
    exact ⟨[], ⟨⟨none, 0, 0, 0, rfl, Nat.le_refl _, fun h => by simp at h, fun k hk => by simp at hk⟩, fun k hk => by simp at hk⟩, Nat.zero_le _⟩
  · simp at hcs; subst hcs
    simp at hmm
    have h6 : Try.prog.cellsOf 41 = 6 := by kernel_rfl
    have hat : ∀ i, i < len → ∃ y : Nl, (∀ j, j < 6 → w.cell? ((a.add (i * 6)).add j) = (nlC y.p y.label)[j]?) ∧ y.p.Ok := by
      intro i hlt
      obtain ⟨cs', hc, ht'⟩ := hi i (by omega)
      obtain ⟨_, hcl, hcat⟩ := World.cells?_some hc
      rw [h6] at hcl hcat
      obtain ⟨y, hy, hok⟩ := nl_of_cells (d := cs'.toArray) (by simpa using hcl) (by simpa using ht')
      exact ⟨y, fun j hj => by rw [hcat j hj, ← hy j hj]; simp, hok⟩
    obtain ⟨Z, hZ⟩ : ∃ Z : Nat → Nl, ∀ i, i < len → (∀ j, j < 6 → w.cell? ((a.add (i * 6)).add j) = (nlC (Z i).p (Z i).label)[j]?) ∧ (Z i).p.Ok := by
      refine ⟨fun i => if hi : i < len then Classical.choose (hat i hi) else default, fun i hi => ?_⟩
      simp only [hi, dif_pos]
      exact Classical.choose_spec (hat i hi)
    have hlen : ((List.range len).map Z).length = len := by simp
    have hnl : ∀ k, k < len → nlAt ((List.range len).map Z) k = Z k := fun k hk => by simp [nlAt, List.getD_eq_getElem?_getD, hk]
    have hok : ∀ k, k < ((List.range len).map Z).length → (nlAt ((List.range len).map Z) k).p.Ok := fun k hk => by rw [hlen] at hk; rw [hnl k hk]; exact (hZ k hk).2
    have hmx : ((List.range len).map Z).length ≤ maxLen := by rw [hlen]; omega
    rcases Nat.eq_zero_or_pos len with h0 | hpos
    · subst h0
      exact ⟨[], ⟨⟨some a, cap, 0, 0, rfl, by simp, fun h => by simp at h, fun k hk => by simp at hk⟩, fun k hk => by simp at hk⟩, Nat.zero_le _⟩
    · have hsp : a.spot = none := by
        have h0 := (hZ 0 hpos).1 0 (by omega)
        have := cell_spot (h0.trans (show (nlC (Z 0).p (Z 0).label)[0]? = some _ from rfl))
        rw [Nat.zero_mul] at this
        exact spot_add (spot_add this)
      obtain ⟨g, off, sp⟩ := a
      simp at hsp; subst hsp
      have hc : ∀ k j, k < len → j < 6 → w.cell? ⟨g, off + k * 6 + j, none⟩ = (nlC (Z k).p (Z k).label)[j]? := fun k j hk hj => by
        have := (hZ k hk).1 j hj
        rwa [Addr.add_lit, Addr.add_lit] at this
      refine ⟨(List.range len).map Z, ⟨⟨_, cap, g, off, by rw [hlen], by rw [hlen]; exact hl, fun _ => ⟨rfl, ?_⟩, fun k hk => ?_⟩, hok⟩, hmx⟩
      · have h0 := (hc 0 0 hpos (by omega)).trans (show (nlC (Z 0).p (Z 0).label)[0]? = some _ from rfl)
        have := World.block_lt_of_cell? _ _ h0
        simpa using this
      · rw [hlen] at hk
        rw [hnl k hk]
        exact ⟨hc k 0 hk (by omega), hc k 1 hk (by omega), hc k 2 hk (by omega), hc k 3 hk (by omega), hc k 4 hk (by omega), hc k 5 hk (by omega)⟩
end
end Go.Proofs.Ytcljkcgccahlcaa
